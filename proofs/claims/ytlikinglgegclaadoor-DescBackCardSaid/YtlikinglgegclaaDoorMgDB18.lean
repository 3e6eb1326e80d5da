import Derived.ProofKit
import Derived.OpenShut
import Derived.Test.YtlikinglgegclaaDoorMgDB0
import Derived.Test.YtlikinglgegclaaDoorMgDB1
import Derived.Test.YtlikinglgegclaaDoorMgDB2
import Derived.Test.YtlikinglgegclaaDoorMgDB3
import Derived.Test.YtlikinglgegclaaDoorMgDB4
import Derived.Test.YtlikinglgegclaaDoorMgDB5
import Derived.Test.YtlikinglgegclaaDoorMgDB6
import Derived.Test.YtlikinglgegclaaDoorMgDB7
import Derived.Test.YtlikinglgegclaaDoorMgDB8
import Derived.Test.YtlikinglgegclaaDoorMgDB9
import Derived.Test.YtlikinglgegclaaDoorMgDB10
import Derived.Test.YtlikinglgegclaaDoorMgDB11
import Derived.Test.YtlikinglgegclaaDoorMgDB12
import Derived.Test.YtlikinglgegclaaDoorMgDB13
import Derived.Test.YtlikinglgegclaaDoorMgDB14
import Derived.Test.YtlikinglgegclaaDoorMgDB15
import Derived.Test.YtlikinglgegclaaDoorMgDB16
import Derived.Test.YtlikinglgegclaaDoorMgDB17
set_option linter.unusedSimpArgs false
set_option linter.unusedVariables false
/- A slice of numbers that came in, as the numbers that it reads as. -/
namespace Go.Cour
open Go.RowKit Go.ChangeShapes Go.WideShapes
/-- What is known of a slice of whole numbers that came in: it is nil; or it leads to a row of 'cap' cells, the numbers 'zs' (the first 'len' are its elements), each fitting its kind. -/
def IsRow (k : IntKind) (w : World) (a : Option Addr) (len cap : Nat) (zs : List Int) : Prop :=
  (a = none ∧ len = 0 ∧ cap = 0 ∧ zs = []) ∨
  ∃ x, a = some x ∧ len ≤ cap ∧ cap ≤ maxLen ∧ zs.length = cap ∧ (∀ i, i < zs.length → w.cell? (x.add i) = some (.int k (zs.getD i 0))) ∧ ∀ n ∈ zs, (Lit.int k n).wf = true
theorem IsRow.parts {k : IntKind} {w : World} {a : Option Addr} {len cap : Nat} {zs : List Int} (h : IsRow k w a len cap zs) :
    len = (zs.take len).length ∧ (a = none → cap = 0) ∧ len ≤ cap ∧ cap ≤ maxLen ∧ Rd w a k (zs.take len) ∧ ∀ n ∈ zs.take len, (Lit.int k n).wf = true := by
  rcases h with ⟨rfl, rfl, rfl, rfl⟩ | ⟨x, rfl, h1, h2, h3, h4, h5⟩
  · exact ⟨rfl, fun _ => rfl, Nat.le_refl _, by unfold maxLen; omega, .inl rfl, fun n hn => by simp at hn⟩
  · refine ⟨by rw [List.length_take]; omega, (fun h => by cases h), h1, h2, ?_, fun n hn => h5 n (List.mem_of_mem_take hn)⟩
    by_cases hz : len = 0
    · exact .inl (by rw [hz]; rfl)
    · have h0 := h4 0 (by omega)
      have hs : x.spot = none := by
        have := World.cell?_spot h0
        simpa [Addr.add] using this
      have hx : x = ⟨x.block, x.off, none⟩ := by cases x; simp_all
      refine .inr ⟨x.block, x.off, by rw [← hx], fun i hi => ?_⟩
      rw [List.length_take] at hi
      have h6 := h4 i (by omega)
      rw [hx, add_lit] at h6
      rw [h6, rd_take _ _ _ (by omega)]
      rfl
theorem wf_u8 {x : Int} (h : (Lit.int .u8 x).wf = true) : 0 ≤ x ∧ x < 256 := by
  have h1 : IntKind.u8.min = 0 := by decide
  have h2 : IntKind.u8.max = 255 := by decide
  simp [Lit.wf, h1, h2] at h
  omega
theorem u32_wf {x : Int} (h : (Lit.int .u32 x).wf = true) : 0 ≤ x ∧ x < 4294967296 := by
  have h1 : IntKind.u32.min = 0 := by decide
  have h2 : IntKind.u32.max = 4294967295 := by decide
  simp [Lit.wf, h1, h2] at h
  omega
/-- Numbers that fit a byte are bytes wherever they are read. -/
theorem rd_bytes {xs : List Int} (h : ∀ x ∈ xs, (Lit.int .u8 x).wf = true) (i : Nat) : 0 ≤ rd xs i ∧ rd xs i < 256 := by
  unfold rd
  rw [List.getD_eq_getElem?_getD]
  cases hx : xs[i]? with
  | none => simp
  | some x => exact wf_u8 (h x (List.mem_of_getElem? hx))
section
variable {H : Type} {enc : TypeId × Value → H} {P : Program} {W : World} {base : Nat} {sp : Nat → Bool} {held : Bool}
/-- An array of whole numbers that came in. -/
theorem open_iarr {t e : TypeId} {n : Nat} {k : IntKind} (ht : P.underlying t = some (.array n e)) (he : P.underlying e = some (.int k)) (hc : P.cellsOf e = 1) (hct : P.cellsOf t = n)
    {r : Reach} {b0 : Nat} {v : Value} (hval : Value.okWide P W r b0 t v) {d : DataW H} {ps : List MemPlace} (hd : DataW.Trod enc P W base sp held t v d ps) :
    ∃ xs : List Int, v = .agg (ints k xs).toArray ∧ xs.length = n ∧ ∀ x ∈ xs, (Lit.int k x).wf = true := by
  simp only [Value.okWide, ht] at hval
  obtain ⟨cs, rfl, hsz, _⟩ := hval
  obtain ⟨fuel, hf⟩ := hd
  obtain ⟨ys, m, _, _, hl, hyl, hel⟩ := DataW.trod_array ht hf
  rw [hct] at hsz
  have hall : ∀ i, (hi : i < n) → ∃ a, cs.toList[i]? = some (.int k a) ∧ (Lit.int k a).wf = true := fun i hi => by
    have h1 := hel i hi
    rw [hc, Nat.mul_one] at h1
    have hy : ys[i]? = some ys[i] := List.getElem?_eq_getElem (by omega)
    rw [hy] at h1
    obtain ⟨a, ea, _, wa⟩ := DataW.trod_int he h1
    refine ⟨a, ?_, wa⟩
    have h2 : (((Value.agg cs).cells.toList.drop i).take 1)[0]? = some (.int k a) := by rw [ea]; rfl
    simpa [Value.cells] using h2
  refine ⟨cs.toList.map fun v => match v with | .int _ a => a | _ => 0, ?_, by simpa using hsz, ?_⟩
  · congr 1
    apply Array.ext_getElem?
    intro i
    by_cases hi : i < n
    · obtain ⟨a, h1, _⟩ := hall i hi
      have h2 : cs[i]? = some (.int k a) := by simpa using h1
      rw [h2]
      simp [ints, h2]
    · rw [Array.getElem?_eq_none (by omega), Array.getElem?_eq_none (by simp [ints]; omega)]
  · intro x hx
    obtain ⟨v, hv, rfl⟩ := List.mem_map.1 hx
    obtain ⟨i, hi⟩ := List.getElem?_of_mem hv
    have hin : i < n := by
      have := (List.getElem?_eq_some_iff.1 hi).1
      simp at this; omega
    obtain ⟨a, h1, wa⟩ := hall i hin
    rw [hi] at h1
    injection h1 with h1
    subst h1
    exact wa
end
end Go.Cour
