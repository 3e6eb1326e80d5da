/- courierlaw16.first. -/
import Derived.Test.YtpmmmbilfblcpaaDoorStrE
namespace Go.Proofs.YtpmmmbilfblcpaaDoor
open Go.RowKit Go.Cour
theorem bytesOk_zeros (n : Nat) : bytesOk (List.replicate n 0) := by
  intro i
  unfold rd
  rw [List.getD_eq_getElem?_getD, List.getElem?_replicate]
  split <;> simp
set_option maxHeartbeats 400000 in
set_option maxRecDepth 100000 in
theorem first16_calls (w : World) : Calls Tryd.prog 23 #[] w fun e w' => e = .returned (.bool true) ∧ Below w.heap.size w w' := by
  have c1 : countI 0 5 = 1 := by decide
  have c2 : countI 11 5 = 3 := by decide
  have hz := bytesOk_zeros 32
  go_enter Tryd.func23, Tryd.ntmps23
  go_wp2_with (first
    | (go_at_call 26; refine (count_calls _ _ _ (by omega) (by omega)).mono ?_; rintro e w2 ⟨rfl, rfl⟩)
    | (refine build_to rfl 23 _ rfl (ints .u8 (List.replicate 32 0)).toArray (by kernel_rfl) ?_)
    | (go_at_call 24; refine (all_calls (List.replicate 32 0) [] 5 none 0 0 _ rfl hz rfl (fun _ => rfl) (Nat.le_refl _) (Rd.nil _ _ _) (by simp) (by omega)).mono ?_
       rintro e w2 ⟨v, rfl, ⟨cs, hv, hcl, _⟩, hB⟩
       have hcs : cs.length = 1 := by rw [hcl, allTexts, allTo_length]; exact congrArg Int.toNat c1
       obtain ⟨A, c, rfl, hc, _⟩ := hv.parts
       rw [hcs])
    | fail)
  go_ret
  exact ⟨rfl, hB⟩
end Go.Proofs.YtpmmmbilfblcpaaDoor
