/- Is: an error, held against a number. -/
import Derived.Test.YtinpilfnnmkpoaaDoorErrC
namespace Go.Proofs.YtinpilfnnmkpoaaDoor
open Go.RowKit Go.Cour
set_option maxHeartbeats 400000 in
set_option maxRecDepth 100000 in
theorem same_nil_calls (c : Int) (w : World) : Calls Tryd.prog 28 #[.nilIface, .agg (faultC c false 0).toArray] w fun e w' => e = .returned (.bool ((0 : Int) == c)) ∧ Below w.heap.size w w' := by
  obtain ⟨fs, hfs⟩ := undF
  go_enter Tryd.func28, Tryd.ntmps28
  go_wp2_with (first
    | (refine box_blk rfl 66 _ rfl _ rfl (faultC c false 0) rfl ?_; intro g4 w1 hg4 hb4 hB1 hs1; clear hg4 hs1)
    | fail)
  refine wp_region_facts (ix := [[0], [1], [2], [3], [4]]) (S := fun w' => Blk w' g4 66 (faultC c false 0) ∧ Below w.heap.size w w')
    (R := fun w1 w2 => Below w1.heap.size w1 w2)
    (p := fun jO vs w' => match jO with
      | 0 => vs 0 = .nilIface
      | 1 => vs 1 = .agg (faultC ((0 : Int)) false 0).toArray
      | 2 => vs 2 = .agg (faultC c false 0).toArray
      | 3 => vs 3 = .bool ((0 : Int) == c)
      | 4 => vs 4 = .bool ((0 : Int) == c)
      | _ => True)
    (by kernel_rfl) (by kernel_rfl) ?_ ?_ ?_ ?_
  · exact ⟨hb4.drew, below_drewN hB1 1⟩
  · intro jO vs w1 w2 hR h
    match jO with
    | 0 | 1 | 2 | 3 | 4 => exact h
    | nO + 5 => trivial
  · refine ⟨?_, ?_, ?_, ?_, ?_, trivial⟩
    · (intro vs w2 hS hd; simp [Region.binds, Fact.at] at hd; simp only [fill, List.take_succ_cons, List.take_zero, Act.put, List.setIfInBounds_toArray, List.set_cons_zero, List.set_cons_succ, Nat.reduceAdd])
      try simp only [hd]
      go_wp2_with fail
      exact ⟨rfl, rfl, hS, Below.refl _ _⟩
    · (intro vs w2 hS hd; simp [Region.binds, Fact.at] at hd; simp only [fill, List.take_succ_cons, List.take_zero, Act.put, List.setIfInBounds_toArray, List.set_cons_zero, List.set_cons_succ, Nat.reduceAdd])
      simp only [hd]
      go_wp2_with (first
        | (go_at_call 39; refine (fault_nil_calls _).mono ?_; rintro e w3 ⟨rfl, hB⟩)
        | fail)
      exact ⟨rfl, rfl, ⟨hS.1.belowAll hB, below_then hS.2 hS.2.size hB⟩, hB⟩
    · (intro vs w2 hS hd; simp [Region.binds, Fact.at] at hd; simp only [fill, List.take_succ_cons, List.take_zero, Act.put, List.setIfInBounds_toArray, List.set_cons_zero, List.set_cons_succ, Nat.reduceAdd])
      try simp only [hd]
      go_wp2_with (first
        | (refine load_str rfl 66 _ rfl g4 rfl 66 _ hS.1 fs hfs infoF ?_)
        | fail)
      exact ⟨rfl, rfl, hS, Below.refl _ _⟩
    · (intro vs w2 hS hd; simp [Region.binds, Fact.at] at hd; simp only [fill, List.take_succ_cons, List.take_zero, Act.put, List.setIfInBounds_toArray, List.set_cons_zero, List.set_cons_succ, Nat.reduceAdd])
      simp only [hd]
      go_wp2_with (first
        | (go_at_call 38; refine (sameFault_calls ((0 : Int)) c _).mono ?_; rintro e w3 ⟨rfl, hB⟩)
        | fail)
      exact ⟨rfl, rfl, ⟨hS.1.belowAll hB, below_then hS.2 hS.2.size hB⟩, hB⟩
    · (intro vs w2 hS hd; simp [Region.binds, Fact.at] at hd; simp only [fill, List.take_succ_cons, List.take_zero, Act.put, List.setIfInBounds_toArray, List.set_cons_zero, List.set_cons_succ, Nat.reduceAdd])
      simp only [hd]
      go_wp2_with fail
      exact ⟨rfl, rfl, hS, Below.refl _ _⟩
  · intro vs wq hf hS
    have h4 : vs 4 = .bool ((0 : Int) == c) := hf 4 (by simp)
    simp only [fill, Act.put, List.setIfInBounds_toArray, List.set_cons_zero, List.set_cons_succ, Nat.reduceAdd]
    clear hf
    go_wp2_with fail
    go_ret
    exact ⟨congrArg Ending.returned h4, hS.2⟩
set_option maxHeartbeats 400000 in
set_option maxRecDepth 100000 in
theorem same_err_calls (c : Int) {w : World} {P : Nat → Addr} (h : Errs w P) (k : Nat) (hk : k < 19) : Calls Tryd.prog 28 #[errV (P k), .agg (faultC c false 0).toArray] w fun e w' => e = .returned (.bool (101 + (k : Int) == c)) ∧ Below w.heap.size w w' := by
  obtain ⟨fs, hfs⟩ := undF
  go_enter Tryd.func28, Tryd.ntmps28
  go_wp2_with (first
    | (refine box_blk rfl 66 _ rfl _ rfl (faultC c false 0) rfl ?_; intro g4 w1 hg4 hb4 hB1 hs1; clear hg4 hs1)
    | fail)
  refine wp_region_facts (ix := [[0], [1], [2], [3], [4]]) (S := fun w' => Blk w' g4 66 (faultC c false 0) ∧ Below w.heap.size w w')
    (R := fun w1 w2 => Below w1.heap.size w1 w2)
    (p := fun jO vs w' => match jO with
      | 0 => vs 0 = errV (P k)
      | 1 => vs 1 = .agg (faultC (101 + (k : Int)) false 0).toArray
      | 2 => vs 2 = .agg (faultC c false 0).toArray
      | 3 => vs 3 = .bool (101 + (k : Int) == c)
      | 4 => vs 4 = .bool (101 + (k : Int) == c)
      | _ => True)
    (by kernel_rfl) (by kernel_rfl) ?_ ?_ ?_ ?_
  · exact ⟨hb4.drew, below_drewN hB1 1⟩
  · intro jO vs w1 w2 hR h
    match jO with
    | 0 | 1 | 2 | 3 | 4 => exact h
    | nO + 5 => trivial
  · refine ⟨?_, ?_, ?_, ?_, ?_, trivial⟩
    · (intro vs w2 hS hd; simp [Region.binds, Fact.at] at hd; simp only [fill, List.take_succ_cons, List.take_zero, Act.put, List.setIfInBounds_toArray, List.set_cons_zero, List.set_cons_succ, Nat.reduceAdd])
      try simp only [hd]
      go_wp2_with fail
      exact ⟨rfl, rfl, hS, Below.refl _ _⟩
    · (intro vs w2 hS hd; simp [Region.binds, Fact.at] at hd; simp only [fill, List.take_succ_cons, List.take_zero, Act.put, List.setIfInBounds_toArray, List.set_cons_zero, List.set_cons_succ, Nat.reduceAdd])
      simp only [hd]
      go_wp2_with (first
        | (go_at_call 39; refine (fault_calls (h.below hS.2) k hk).mono ?_; rintro e w3 ⟨rfl, hB⟩)
        | fail)
      exact ⟨rfl, rfl, ⟨hS.1.belowAll hB, below_then hS.2 hS.2.size hB⟩, hB⟩
    · (intro vs w2 hS hd; simp [Region.binds, Fact.at] at hd; simp only [fill, List.take_succ_cons, List.take_zero, Act.put, List.setIfInBounds_toArray, List.set_cons_zero, List.set_cons_succ, Nat.reduceAdd])
      try simp only [hd]
      go_wp2_with (first
        | (refine load_str rfl 66 _ rfl g4 rfl 66 _ hS.1 fs hfs infoF ?_)
        | fail)
      exact ⟨rfl, rfl, hS, Below.refl _ _⟩
    · (intro vs w2 hS hd; simp [Region.binds, Fact.at] at hd; simp only [fill, List.take_succ_cons, List.take_zero, Act.put, List.setIfInBounds_toArray, List.set_cons_zero, List.set_cons_succ, Nat.reduceAdd])
      simp only [hd]
      go_wp2_with (first
        | (go_at_call 38; refine (sameFault_calls (101 + (k : Int)) c _).mono ?_; rintro e w3 ⟨rfl, hB⟩)
        | fail)
      exact ⟨rfl, rfl, ⟨hS.1.belowAll hB, below_then hS.2 hS.2.size hB⟩, hB⟩
    · (intro vs w2 hS hd; simp [Region.binds, Fact.at] at hd; simp only [fill, List.take_succ_cons, List.take_zero, Act.put, List.setIfInBounds_toArray, List.set_cons_zero, List.set_cons_succ, Nat.reduceAdd])
      simp only [hd]
      go_wp2_with fail
      exact ⟨rfl, rfl, hS, Below.refl _ _⟩
  · intro vs wq hf hS
    have h4 : vs 4 = .bool (101 + (k : Int) == c) := hf 4 (by simp)
    simp only [fill, Act.put, List.setIfInBounds_toArray, List.set_cons_zero, List.set_cons_succ, Nat.reduceAdd]
    clear hf
    go_wp2_with fail
    go_ret
    exact ⟨congrArg Ending.returned h4, hS.2⟩
set_option maxHeartbeats 400000 in
theorem is_nil_calls (c : Int) (w : World) : Calls Tryd.prog 13 #[.nilIface, .int .i64 c] w fun e w' => e = .returned (.bool ((0 : Int) == c)) ∧ Below w.heap.size w w' := by
  go_enter Tryd.func13, Tryd.ntmps13
  go_wp2_with (first
    | (go_at_call 29; refine (bare_calls _ _).mono ?_; rintro e w1 ⟨rfl, hB1⟩)
    | (go_at_call 28; refine (same_nil_calls c _).mono ?_; rintro e w2 ⟨rfl, hB2⟩)
    | fail)
  go_ret
  exact ⟨rfl, below_then hB1 hB1.size hB2⟩
set_option maxHeartbeats 400000 in
theorem is_err_calls (c : Int) {w : World} {P : Nat → Addr} (h : Errs w P) (k : Nat) (hk : k < 19) : Calls Tryd.prog 13 #[errV (P k), .int .i64 c] w fun e w' => e = .returned (.bool (101 + (k : Int) == c)) ∧ Below w.heap.size w w' := by
  go_enter Tryd.func13, Tryd.ntmps13
  go_wp2_with (first
    | (go_at_call 29; refine (bare_calls _ _).mono ?_; rintro e w1 ⟨rfl, hB1⟩)
    | (go_at_call 28; refine (same_err_calls c (h.below hB1) k hk).mono ?_; rintro e w2 ⟨rfl, hB2⟩)
    | fail)
  go_ret
  exact ⟨rfl, below_then hB1 hB1.size hB2⟩
end Go.Proofs.YtinpilfnnmkpoaaDoor
