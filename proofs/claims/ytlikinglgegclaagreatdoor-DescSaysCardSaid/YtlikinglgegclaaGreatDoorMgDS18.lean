import Derived.ProofKit
import Derived.OpenShut
import Derived.Test.YtlikinglgegclaaGreatDoorMgDS0
import Derived.Test.YtlikinglgegclaaGreatDoorMgDS1
import Derived.Test.YtlikinglgegclaaGreatDoorMgDS2
import Derived.Test.YtlikinglgegclaaGreatDoorMgDS3
import Derived.Test.YtlikinglgegclaaGreatDoorMgDS4
import Derived.Test.YtlikinglgegclaaGreatDoorMgDS5
import Derived.Test.YtlikinglgegclaaGreatDoorMgDS6
import Derived.Test.YtlikinglgegclaaGreatDoorMgDS7
import Derived.Test.YtlikinglgegclaaGreatDoorMgDS8
import Derived.Test.YtlikinglgegclaaGreatDoorMgDS9
import Derived.Test.YtlikinglgegclaaGreatDoorMgDS10
import Derived.Test.YtlikinglgegclaaGreatDoorMgDS11
import Derived.Test.YtlikinglgegclaaGreatDoorMgDS12
import Derived.Test.YtlikinglgegclaaGreatDoorMgDS13
import Derived.Test.YtlikinglgegclaaGreatDoorMgDS14
import Derived.Test.YtlikinglgegclaaGreatDoorMgDS15
import Derived.Test.YtlikinglgegclaaGreatDoorMgDS16
import Derived.Test.YtlikinglgegclaaGreatDoorMgDS17
set_option linter.unusedSimpArgs false
set_option linter.unusedVariables false
open List (getElem_toArray getElem_cons_zero getElem_cons_succ)
/- A slice of numbers that came in, as the numbers that it reads as. -/
namespace Go.Cour
open Go.RowKit Go.ChangeShapes Go.WideShapes
/-- What is known of a slice of whole numbers that came in: it is nil; or it leads to a row of 'cap' cells, the numbers 'zs' (the first 'len' are its elements), each fitting its kind. -/
def IsRow (k : IntKind) (w : World) (a : Option Addr) (len cap : Nat) (zs : List Int) : Prop :=
  (a = none ∧ len = 0 ∧ cap = 0 ∧ zs = []) ∨
  ∃ x, a = some x ∧ len ≤ cap ∧ cap ≤ maxLen ∧ zs.length = cap ∧ (∀ i, i < zs.length → w.cell? (x.add i) = some (.int k (zs.getD i 0))) ∧ ∀ n ∈ zs, (Lit.int k n).wf = true
theorem IsRow.parts {k : IntKind} {w : World} {a : Option Addr} {len cap : Nat} {zs : List Int} (h : IsRow k w a len cap zs) :
    len = (zs.take len).length ∧ (a = none → cap = 0) ∧ len ≤ cap ∧ cap ≤ maxLen ∧ Rd w a k (zs.take len) ∧ ∀ n ∈ zs.take len, (Lit.int k n).wf = true := by
  rcases h with ⟨rfl, rfl, rfl, rfl⟩ | ⟨x, rfl, h1, h2, h3, h4, h5⟩
  · exact ⟨rfl, fun _ => rfl, Nat.le_refl _, by unfold maxLen; omega, .inl rfl, fun n hn => by simp at hn⟩
  · refine ⟨by rw [List.length_take]; omega, (fun h => by cases h), h1, h2, ?_, fun n hn => h5 n (List.mem_of_mem_take hn)⟩
    by_cases hz : len = 0
    · exact .inl (by rw [hz]; rfl)
    · have h0 := h4 0 (by omega)
      have hs : x.spot = none := by
        have := World.cell?_spot h0
        simpa [Addr.add] using this
      have hx : x = ⟨x.block, x.off, none⟩ := by cases x; simp_all
      refine .inr ⟨x.block, x.off, by rw [← hx], fun i hi => ?_⟩
      rw [List.length_take] at hi
      have h6 := h4 i (by omega)
      rw [hx, add_lit] at h6
      rw [h6, rd_take _ _ _ (by omega)]
      rfl
theorem wf_u8 {x : Int} (h : (Lit.int .u8 x).wf = true) : 0 ≤ x ∧ x < 256 := by
  have h1 : IntKind.u8.min = 0 := by decide
  have h2 : IntKind.u8.max = 255 := by decide
  simp [Lit.wf, h1, h2] at h
  omega
theorem u32_wf {x : Int} (h : (Lit.int .u32 x).wf = true) : 0 ≤ x ∧ x < 4294967296 := by
  have h1 : IntKind.u32.min = 0 := by decide
  have h2 : IntKind.u32.max = 4294967295 := by decide
  simp [Lit.wf, h1, h2] at h
  omega
/-- Numbers that fit a byte are bytes wherever they are read. -/
theorem rd_bytes {xs : List Int} (h : ∀ x ∈ xs, (Lit.int .u8 x).wf = true) (i : Nat) : 0 ≤ rd xs i ∧ rd xs i < 256 := by
  unfold rd
  rw [List.getD_eq_getElem?_getD]
  cases hx : xs[i]? with
  | none => simp
  | some x => exact wf_u8 (h x (List.mem_of_getElem? hx))
section
variable {H : Type} {enc : TypeId × Value → H} {P : Program} {W : World} {base : Nat} {sp : Nat → Bool} {held : Bool}
end
end Go.Cour
/- A desc that came in. -/
namespace Go.Cour
open Go.RowKit Go.ChangeShapes Go.WideShapes
variable {H : Type} {enc : TypeId × Value → H} {P : Program} {w : World} {base : Nat} {sp : Nat → Bool} {held : Bool}
/-- An array of whole numbers, out of its cells. -/
theorem trod_iarr {t e : TypeId} {n : Nat} {k : IntKind} (ht : P.underlying t = some (.array n e)) (he : P.underlying e = some (.int k)) (hc : P.cellsOf e = 1) {fuel : Nat} {cs : List Value} (hlen : cs.length = n) {x : DataW H × List MemPlace} (h : DataW.trod enc P w base sp held fuel t cs = some x) :
    ∃ xs : List Int, cs = ints k xs ∧ xs.length = n ∧ ∀ y ∈ xs, (Lit.int k y).wf = true := by
  obtain ⟨ys, m, _, _, hl, hyl, hel⟩ := DataW.trod_array ht h
  have hall : ∀ i, (hi : i < n) → ∃ a, cs[i]? = some (.int k a) ∧ (Lit.int k a).wf = true := fun i hi => by
    have h1 := hel i hi
    rw [hc, Nat.mul_one] at h1
    have hy : ys[i]? = some ys[i] := List.getElem?_eq_getElem (by omega)
    rw [hy] at h1
    obtain ⟨a, ea, _, wa⟩ := DataW.trod_int he h1
    refine ⟨a, ?_, wa⟩
    have h2 : ((cs.drop i).take 1)[0]? = some (.int k a) := by rw [ea]; rfl
    simpa using h2
  refine ⟨cs.map fun v => match v with | .int _ a => a | _ => 0, ?_, by simpa using hlen, ?_⟩
  · apply List.ext_getElem?
    intro i
    by_cases hi : i < n
    · obtain ⟨a, h1, _⟩ := hall i hi
      simp [ints, h1]
    · rw [List.getElem?_eq_none (by omega), List.getElem?_eq_none (by simp [hlen]; omega)]
  · intro y hy
    obtain ⟨v, hv, rfl⟩ := List.mem_map.1 hy
    obtain ⟨i, hi⟩ := List.getElem?_of_mem hv
    obtain ⟨a, h1, h2⟩ := hall i (by have := (List.getElem?_eq_some_iff.1 hi).1; omega)
    rw [h1] at hi
    injection hi with hi
    subst hi
    exact h2
theorem parts_of {cs : List Value} (a b : Nat) : (cs.drop a).take b ++ cs.drop (a + b) = cs.drop a := by
  rw [← List.drop_drop]; exact List.take_append_drop _ _
end Go.Cour
namespace Go.Proofs.YtlikinglgegclaaGreatDoor
open Go.RowKit Go.ChangeShapes Go.WideShapes Go.Cour
variable {H : Type} {enc : TypeId × Value → H} {w : World} {base : Nat} {sp : Nat → Bool} {held : Bool}
theorem cellsU32S : Tryz.prog.cellsOf 22 = 1 := by kernel_rfl
theorem cellsU8S : Tryz.prog.cellsOf 5 = 1 := by kernel_rfl
theorem cellsKeyS : Tryz.prog.cellsOf 24 = 32 := by kernel_rfl
theorem cellsHashS : Tryz.prog.cellsOf 25 = 32 := by kernel_rfl
theorem cellsDescS : Tryz.prog.cellsOf 27 = 99 := by kernel_rfl
set_option maxRecDepth 100000 in
/-- A desc that came in is its numbers and bytes. -/
theorem open_desc {r : Reach} {b0 : Nat} {v : Value} (hval : Value.okWide Tryz.prog w r b0 27 v) {d : DataW H} {ps : List MemPlace} (hd : DataW.Trod enc Tryz.prog w base sp held 27 v d ps) :
    ∃ (id m q : Int) (k rt b : List Int), v = .agg (descC id m q k rt b).toArray ∧ (Lit.int .u32 id).wf = true ∧ (Lit.int .u32 m).wf = true ∧ (Lit.int .u32 q).wf = true ∧ k.length = 32 ∧ rt.length = 32 ∧ b.length = 32 ∧ (∀ y ∈ k, (Lit.int .u8 y).wf = true) := by
  have ht := undDescF
  have hm := fieldsDesc
  generalize Tryz.prog.fieldsOf 27 = fs at ht hm
  simp only [Value.okWide, ht] at hval
  obtain ⟨cs, rfl, hsz, _⟩ := hval
  obtain ⟨fuel, hf⟩ := hd
  obtain ⟨xs, n, _, _, hl, hxl, hel⟩ := DataW.trod_struct ht hf
  have hfl : fs.size = 6 := by have := congrArg List.length hm; simpa using this
  rw [cellsDescS] at hsz
  have hcl : cs.toList.length = 99 := by simpa using hsz
  simp only [Value.cells] at hel
  obtain ⟨l, hll⟩ : ∃ l, cs.toList = l := ⟨_, rfl⟩
  rw [hll] at hel hcl
  have field : ∀ (i : Nat) (ty : TypeId) (o : Nat), ([(true, 22, 0), (true, 22, 1), (true, 22, 2), (true, 24, 3), (true, 25, 35), (true, 25, 67)] : List (Bool × TypeId × Nat))[i]? = some (true, ty, o) → ∃ y, DataW.trod enc Tryz.prog w base sp held n ty ((l.drop o).take (Tryz.prog.cellsOf ty)) = some y := fun i ty o h => by
    rw [← hm, List.getElem?_map] at h
    obtain ⟨f, hf1, hf2⟩ := Option.map_eq_some_iff.1 h
    injection hf2 with _ hf2
    injection hf2 with h3 h4
    subst h3 h4
    have h5 : fs[i]? = some f := by simpa using hf1
    have h6 := hel i f h5
    have hi : i < xs.length := by have := (Array.getElem?_eq_some_iff.1 h5).1; omega
    rw [List.getElem?_eq_getElem hi] at h6
    exact ⟨_, h6⟩
  obtain ⟨y0, e0⟩ := field 0 _ _ rfl
  obtain ⟨y1, e1⟩ := field 1 _ _ rfl
  obtain ⟨y2, e2⟩ := field 2 _ _ rfl
  obtain ⟨y3, e3⟩ := field 3 _ _ rfl
  obtain ⟨y4, e4⟩ := field 4 _ _ rfl
  obtain ⟨y5, e5⟩ := field 5 _ _ rfl
  rw [cellsU32S] at e0 e1 e2
  rw [cellsKeyS] at e3
  rw [cellsHashS] at e4 e5
  obtain ⟨id, a0, _, w0⟩ := DataW.trod_int undU32D e0
  obtain ⟨m, a1, _, w1⟩ := DataW.trod_int undU32D e1
  obtain ⟨q, a2, _, w2⟩ := DataW.trod_int undU32D e2
  obtain ⟨k, a3, l3, w3⟩ := trod_iarr arrKeyD undU8D cellsU8S (by rw [List.length_take, List.length_drop]; omega) e3
  obtain ⟨rt, a4, l4, w4⟩ := trod_iarr arrHashD undU8D cellsU8S (by rw [List.length_take, List.length_drop]; omega) e4
  obtain ⟨b, a5, l5, w5⟩ := trod_iarr arrHashD undU8D cellsU8S (by rw [List.length_take, List.length_drop]; omega) e5
  refine ⟨id, m, q, k, rt, b, ?_, w0, w1, w2, l3, l4, l5, w3⟩
  have h0 := parts_of (cs := l) 0 1
  have h1 := parts_of (cs := l) 1 1
  have h2 := parts_of (cs := l) 2 1
  have h3 := parts_of (cs := l) 3 32
  have h4 := parts_of (cs := l) 35 32
  have h5 : (l.drop 67).take 32 = l.drop 67 := List.take_of_length_le (by rw [List.length_drop]; omega)
  rw [a5] at h5
  rw [a4, ← h5] at h4
  rw [a3, ← h4] at h3
  rw [a2, ← h3] at h2
  rw [a1, ← h2] at h1
  rw [a0, ← h1, List.drop_zero] at h0
  have : cs = l.toArray := by rw [← hll]
  rw [this, ← h0]
  unfold descC
  simp
end Go.Proofs.YtlikinglgegclaaGreatDoor
