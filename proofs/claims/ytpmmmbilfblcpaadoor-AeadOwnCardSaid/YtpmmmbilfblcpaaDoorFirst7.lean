/- courierlaw7.first. -/
import Derived.Test.YtpmmmbilfblcpaaDoorOpen
namespace Go.Proofs.YtpmmmbilfblcpaaDoor
open Go.RowKit Go.Cour
theorem sealText_length (key nonce ad b : List Int) : (sealText key nonce ad b).length = b.length + 16 := by
  rw [sealText, List.length_append, xorStream_length, tagOf_length]
set_option maxHeartbeats 400000 in
set_option maxRecDepth 100000 in
theorem first7_calls {w : World} {P : Nat → Addr} (hE : Errs w P) : Calls Tryd.prog 11 #[] w fun e w' => e = .returned (.bool true) ∧ Below w.heap.size w w' := by
  have hz := bytesOk_zeros' 32
  have hz2 := bytesOk_zeros' 12
  have hbe : ((101 : Int) + ((2 : Nat) : Int) == 103) = true := by decide
  go_enter Tryd.func11, Tryd.ntmps11
  go_wp2_with (first
    | (refine build_to rfl 23 _ rfl (ints .u8 (List.replicate 32 0)).toArray (by kernel_rfl) ?_)
    | (refine build_to rfl 24 _ rfl (ints .u8 (List.replicate 12 0)).toArray (by kernel_rfl) ?_)
    | (go_at_call 17; refine (open_calls (List.replicate 32 0) (List.replicate 12 0) [] [] none none 0 0 0 0 hE.two rfl rfl hz hz2 rfl (fun _ => rfl) (Rd.nil _ _ _) rfl (Nat.le_refl _) (Rd.nil _ _ _) (fun i => by simp [rd]) (by simp) (by simp)).mono ?_
       rintro e w1 ⟨v, er, rfl, ⟨he1, hv1⟩, hB1⟩; subst he1; subst hv1)
    | (go_at_call 19; refine (is_err_calls 103 (hE.below hB1) 2 (by omega)).mono ?_; rintro e w2 ⟨he2, hB2⟩; rw [hbe] at he2; subst he2)
    | (go_at_call 12; refine (seal_calls (List.replicate 32 0) (List.replicate 12 0) [] [] none none 0 0 0 0 w2 rfl rfl hz hz2 rfl (fun _ => rfl) (Rd.nil _ _ _) rfl (Rd.nil _ _ _) (by simp) (by simp)).mono ?_
       rintro e w3 ⟨v3, rfl, ho3, hB3⟩
       obtain ⟨A3, c3, hv3, _⟩ := ho3.parts
       rw [sealText_length] at hv3
       subst hv3)
    | fail)
  go_ret
  exact ⟨rfl, below_then (below_then hB1 hB1.size hB2) (by have := hB1.size; have := hB2.size; omega) hB3⟩
end Go.Proofs.YtpmmmbilfblcpaaDoor
