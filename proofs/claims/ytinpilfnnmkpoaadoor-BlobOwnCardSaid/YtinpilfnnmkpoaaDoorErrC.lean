/- Errors as faults. -/
import Derived.Test.YtinpilfnnmkpoaaDoorErrB
import Derived.Test.YtinpilfnnmkpoaaDoorFacts
namespace Go.Proofs.YtinpilfnnmkpoaaDoor
open Go.RowKit Go.Cour
theorem assert_err (a : Addr) (w : World) : (Instr.typeAssert (errV a) 27 87 true).run Tryd.prog w = .ok (.tuple #[.pointer none, .bool false]) w := by kernel_rfl
set_option maxHeartbeats 400000 in
set_option maxRecDepth 100000 in
theorem fault_nil_calls (w : World) : Calls Tryd.prog 39 #[.nilIface] w fun e w' => e = .returned (.agg (faultC 0 false 0).toArray) ∧ Below w.heap.size w w' := by
  obtain ⟨fs, hfs⟩ := undF
  have h2 := nil_nil
  go_enter Tryd.func39, Tryd.ntmps39
  go_wp2_with (first
    | (refine alloc_blk rfl 66 rfl _ rfl (faultC 0 false 0) zeroF ?_; intro g1 w1 hg1 hb1 hB1 hs1; clear hs1)
    | (go_at_call 46; refine (none_calls _).mono ?_; rintro e w2 ⟨rfl, hB2⟩; have hb2 := hb1.belowAll hB2)
    | (refine store_blk rfl 66 _ _ rfl g1 (faultC 0 false 0) rfl rfl 66 _ hb2 3 infoF rfl rfl (oneF _ _ _) ?_)
    | fail)
  refine bodyPost_ret (results_str1 rfl _ _ g1 66 _ fs rfl (hb2.setRow (faultC 0 false 0)) hfs infoF) rfl ?_
  exact ⟨rfl, below_setRow (below_then hB1 hB1.size hB2) (by omega) _⟩
set_option maxHeartbeats 400000 in
set_option maxRecDepth 100000 in
theorem fault_calls {w : World} {P : Nat → Addr} (h : Errs w P) (k : Nat) (hk : k < 19) : Calls Tryd.prog 39 #[errV (P k)] w fun e w' => e = .returned (.agg (faultC (101 + (k : Int)) false 0).toArray) ∧ Below w.heap.size w w' := by
  obtain ⟨fs, hfs⟩ := undF
  have h2 := err_nil_right (P k)
  have h4 := fun op t x y v => eqGuard_err op t x y (P k) v
  have h5 := assert_err (P k)
  obtain ⟨c, hc⟩ : ∃ c : Int, Hd (101 + (k : Int) = c) := ⟨_, ⟨rfl⟩⟩
  rw [hc.out]
  go_enter Tryd.func39, Tryd.ntmps39
  go_wp2_with (first
    | (refine alloc_blk rfl 66 rfl _ rfl (faultC 0 false 0) zeroF ?_; intro g1 w1 hg1 hb1 hB1 hs1; clear hs1)
    | (go_at_call 47; refine (sentinel_calls (h.below hB1) k hk).mono ?_; rintro e w2 ⟨rfl, hB2⟩; rw [hc.out]; have hb2 := hb1.belowAll hB2)
    | (go_at_call 29; refine (bare_calls _ _).mono ?_; rintro e w3 ⟨rfl, hB3⟩; have hb3 := hb2.belowAll hB3)
    | (refine store_blk rfl 66 _ _ rfl g1 (faultC c false 0) rfl rfl 66 _ hb3 3 infoF rfl rfl (oneF _ _ _) ?_)
    | fail)
  refine bodyPost_ret (results_str1 rfl _ _ g1 66 _ fs rfl (hb3.setRow (faultC c false 0)) hfs infoF) rfl ?_
  exact ⟨rfl, below_setRow (below_then (below_then hB1 hB1.size hB2) (by have := hB1.size; have := hB2.size; omega) hB3) (by omega) _⟩
end Go.Proofs.YtinpilfnnmkpoaaDoor
