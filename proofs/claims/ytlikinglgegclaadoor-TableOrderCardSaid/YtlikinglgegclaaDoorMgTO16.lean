import Derived.ProofKit
import Derived.OpenShut
import Derived.Test.YtlikinglgegclaaDoorMgTO0
import Derived.Test.YtlikinglgegclaaDoorMgTO1
import Derived.Test.YtlikinglgegclaaDoorMgTO2
import Derived.Test.YtlikinglgegclaaDoorMgTO3
import Derived.Test.YtlikinglgegclaaDoorMgTO4
import Derived.Test.YtlikinglgegclaaDoorMgTO5
import Derived.Test.YtlikinglgegclaaDoorMgTO6
import Derived.Test.YtlikinglgegclaaDoorMgTO7
import Derived.Test.YtlikinglgegclaaDoorMgTO8
import Derived.Test.YtlikinglgegclaaDoorMgTO9
import Derived.Test.YtlikinglgegclaaDoorMgTO10
import Derived.Test.YtlikinglgegclaaDoorMgTO11
import Derived.Test.YtlikinglgegclaaDoorMgTO12
import Derived.Test.YtlikinglgegclaaDoorMgTO13
import Derived.Test.YtlikinglgegclaaDoorMgTO14
import Derived.Test.YtlikinglgegclaaDoorMgTO15
set_option linter.unusedSimpArgs false
set_option linter.unusedVariables false
open List (getElem_toArray getElem_cons_zero getElem_cons_succ)
/- A slice of numbers that came in, as the numbers that it reads as. -/
namespace Go.Cour
open Go.RowKit Go.ChangeShapes Go.WideShapes
/-- What is known of a slice of whole numbers that came in: it is nil; or it leads to a row of 'cap' cells, the numbers 'zs' (the first 'len' are its elements), each fitting its kind. -/
def IsRow (k : IntKind) (w : World) (a : Option Addr) (len cap : Nat) (zs : List Int) : Prop :=
  (a = none ∧ len = 0 ∧ cap = 0 ∧ zs = []) ∨
  ∃ x, a = some x ∧ len ≤ cap ∧ cap ≤ maxLen ∧ zs.length = cap ∧ (∀ i, i < zs.length → w.cell? (x.add i) = some (.int k (zs.getD i 0))) ∧ ∀ n ∈ zs, (Lit.int k n).wf = true
theorem IsRow.parts {k : IntKind} {w : World} {a : Option Addr} {len cap : Nat} {zs : List Int} (h : IsRow k w a len cap zs) :
    len = (zs.take len).length ∧ (a = none → cap = 0) ∧ len ≤ cap ∧ cap ≤ maxLen ∧ Rd w a k (zs.take len) ∧ ∀ n ∈ zs.take len, (Lit.int k n).wf = true := by
  rcases h with ⟨rfl, rfl, rfl, rfl⟩ | ⟨x, rfl, h1, h2, h3, h4, h5⟩
  · exact ⟨rfl, fun _ => rfl, Nat.le_refl _, by unfold maxLen; omega, .inl rfl, fun n hn => by simp at hn⟩
  · refine ⟨by rw [List.length_take]; omega, (fun h => by cases h), h1, h2, ?_, fun n hn => h5 n (List.mem_of_mem_take hn)⟩
    by_cases hz : len = 0
    · exact .inl (by rw [hz]; rfl)
    · have h0 := h4 0 (by omega)
      have hs : x.spot = none := by
        have := World.cell?_spot h0
        simpa [Addr.add] using this
      have hx : x = ⟨x.block, x.off, none⟩ := by cases x; simp_all
      refine .inr ⟨x.block, x.off, by rw [← hx], fun i hi => ?_⟩
      rw [List.length_take] at hi
      have h6 := h4 i (by omega)
      rw [hx, add_lit] at h6
      rw [h6, rd_take _ _ _ (by omega)]
      rfl
section
variable {H : Type} {enc : TypeId × Value → H} {P : Program} {W : World} {base : Nat} {sp : Nat → Bool} {held : Bool}
end
end Go.Cour
