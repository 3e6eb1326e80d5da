/- stream.Seal. -/
import Derived.Test.YtpmmmbilfblcpaaDoorStrC
import Derived.Test.YtpmmmbilfblcpaaDoorFacts
namespace Go.Proofs.YtpmmmbilfblcpaaDoor
open Go.RowKit Go.Cour
/-- A sealed chunk. -/
def ssealText (key : List Int) (i : Int) (last : Bool) (b : List Int) : List Int := sealText key (nonceOf i last) [] b
theorem nonceOf_ok (i : Int) (last : Bool) (hi : 0 ≤ i ∧ i < 4294967296) : bytesOk (nonceOf i last) := by
  intro j
  have h : j = 0 ∨ j = 1 ∨ j = 2 ∨ j = 3 ∨ j = 4 ∨ j = 5 ∨ j = 6 ∨ j = 7 ∨ j = 8 ∨ j = 9 ∨ j = 10 ∨ j = 11 ∨ 12 ≤ j := by omega
  rcases h with rfl | rfl | rfl | rfl | rfl | rfl | rfl | rfl | rfl | rfl | rfl | rfl | h
  case inr.inr.inr.inr.inr.inr.inr.inr.inr.inr.inr.inr =>
    have : rd (nonceOf i last) j = 0 := by unfold rd; rw [List.getD_eq_getElem?_getD, List.getElem?_eq_none (by rw [nonceOf_length]; exact h)]; rfl
    omega
  all_goals cases last <;> simp [rd, nonceOf] <;> omega
set_option maxHeartbeats 400000 in
set_option maxRecDepth 100000 in
theorem sseal_calls (key : List Int) (i : Int) (last : Bool) (b : List Int) (A : Option Addr) (n c : Nat) (w : World) (hk : key.length = 32) (rk : bytesOk key) (hi : 0 ≤ i ∧ i < 4294967296)
    (hn : n = b.length) (hr : Rd w A .u8 b) (hlb : b.length ≤ 100000) :
    Calls Tryd.prog 31 #[.agg (ints .u8 key).toArray, .int .u32 i, .bool last, .slice A n c] w fun e w' => ∃ v, e = .returned v ∧ Own w' w.heap.size 5 .u8 v (ssealText key i last b) ∧ Below w.heap.size w w' := by
  subst hn
  go_enter Tryd.func31, Tryd.ntmps31
  go_wp2_with (first
    | (refine box_blk rfl 23 _ rfl _ rfl (ints .u8 key) rfl ?_; intro g4 w1 hg4 hb4 hB1 hs1; clear hg4 hs1)
    | fail)
  refine wp_region_facts (ix := [[0], [1], [2], [3], [4], [5], [6]]) (S := fun w' => Blk w' g4 23 (ints .u8 key) ∧ Below w.heap.size w w')
    (R := fun w1 w2 => Below w1.heap.size w1 w2)
    (p := fun j vs w' => match j with
      | 0 => vs 0 = .agg (ints .u8 key).toArray
      | 1 => vs 1 = .int .u32 i
      | 2 => vs 2 = .bool last
      | 3 => vs 3 = .agg (ints .u8 (nonceOf i last)).toArray
      | 4 => vs 4 = .slice A b.length c
      | 5 => Own w' w.heap.size 5 .u8 (vs 5) (ssealText key i last b)
      | 6 => Own w' w.heap.size 5 .u8 (vs 6) (ssealText key i last b)
      | _ => True)
    (by kernel_rfl) (by kernel_rfl) ?_ ?_ ?_ ?_
  · exact ⟨hb4.drew, below_drewN hB1 1⟩
  · intro j vs w1 w2 hR h
    match j with
    | 0 | 1 | 2 | 3 | 4 => exact h
    | 5 => exact Own.below h hR
    | 6 => exact Own.below h hR
    | n + 7 => trivial
  · refine ⟨?_, ?_, ?_, ?_, ?_, ?_, ?_, trivial⟩
    · (intro vs w2 hS hd; simp [Region.binds, Fact.at] at hd; simp only [fill, List.take_succ_cons, List.take_zero, Act.put, List.setIfInBounds_toArray, List.set_cons_zero, List.set_cons_succ, Nat.reduceAdd])
      try simp only [hd]
      go_wp2_with (first
        | (refine load_blk rfl 23 _ rfl g4 rfl 23 _ hS.1 32 5 arr23 (by simp [ints, hk]) info23 ?_)
        | fail)
      exact ⟨rfl, rfl, hS, Below.refl _ _⟩
    · (intro vs w2 hS hd; simp [Region.binds, Fact.at] at hd; simp only [fill, List.take_succ_cons, List.take_zero, Act.put, List.setIfInBounds_toArray, List.set_cons_zero, List.set_cons_succ, Nat.reduceAdd])
      try simp only [hd]
      go_wp2_with fail
      exact ⟨rfl, rfl, hS, Below.refl _ _⟩
    · (intro vs w2 hS hd; simp [Region.binds, Fact.at] at hd; simp only [fill, List.take_succ_cons, List.take_zero, Act.put, List.setIfInBounds_toArray, List.set_cons_zero, List.set_cons_succ, Nat.reduceAdd])
      try simp only [hd]
      go_wp2_with fail
      exact ⟨rfl, rfl, hS, Below.refl _ _⟩
    · (intro vs w2 hS hd; simp [Region.binds, Fact.at] at hd; simp only [fill, List.take_succ_cons, List.take_zero, Act.put, List.setIfInBounds_toArray, List.set_cons_zero, List.set_cons_succ, Nat.reduceAdd])
      simp only [hd]
      go_wp2_with (first
        | (go_at_call 49; refine (nonce_calls i last w2 hi).mono ?_; rintro e w3 ⟨rfl, hB⟩)
        | fail)
      exact ⟨rfl, rfl, ⟨hS.1.belowAll hB, below_then hS.2 hS.2.size hB⟩, hB⟩
    · (intro vs w2 hS hd; simp [Region.binds, Fact.at] at hd; simp only [fill, List.take_succ_cons, List.take_zero, Act.put, List.setIfInBounds_toArray, List.set_cons_zero, List.set_cons_succ, Nat.reduceAdd])
      try simp only [hd]
      go_wp2_with fail
      exact ⟨rfl, rfl, hS, Below.refl _ _⟩
    · (intro vs w2 hS hd; simp [Region.binds, Fact.at] at hd; simp only [fill, List.take_succ_cons, List.take_zero, Act.put, List.setIfInBounds_toArray, List.set_cons_zero, List.set_cons_succ, Nat.reduceAdd])
      simp only [hd]
      go_wp2_with (first
        | (go_at_call 12; refine (seal_calls key (nonceOf i last) [] b none A 0 c 0 b.length w2 hk (nonceOf_length _ _) rk (nonceOf_ok i last hi) rfl (fun _ => rfl) (Rd.nil _ _ _) rfl (hr.below hS.2) (by simp) hlb).mono ?_; rintro e w3 ⟨v, rfl, ho, hB⟩)
        | fail)
      exact ⟨rfl, ho.lower hS.2.size, ⟨hS.1.belowAll hB, below_then hS.2 hS.2.size hB⟩, hB⟩
    · (intro vs w2 hS hd; simp [Region.binds, Fact.at] at hd; simp only [fill, List.take_succ_cons, List.take_zero, Act.put, List.setIfInBounds_toArray, List.set_cons_zero, List.set_cons_succ, Nat.reduceAdd])
      go_wp2_with fail
      exact ⟨rfl, hd.1, hS, Below.refl _ _⟩
  · intro vs wq hf hS
    have h6 : Own wq w.heap.size 5 .u8 (vs 6) (ssealText key i last b) := hf 6 (by simp)
    simp only [fill, Act.put, List.setIfInBounds_toArray, List.set_cons_zero, List.set_cons_succ, Nat.reduceAdd]
    clear hf
    go_wp2_with fail
    go_ret
    exact ⟨_, rfl, h6, hS.2⟩
end Go.Proofs.YtpmmmbilfblcpaaDoor
