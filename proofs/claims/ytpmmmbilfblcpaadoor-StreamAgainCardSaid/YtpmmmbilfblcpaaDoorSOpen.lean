/- stream.Open. -/
import Derived.Test.YtpmmmbilfblcpaaDoorStrD
import Derived.Test.YtpmmmbilfblcpaaDoorInv
namespace Go.Proofs.YtpmmmbilfblcpaaDoor
open Go.RowKit Go.Cour
/-- The first result of opening. -/
def OpV (w' : World) (base : Nat) (r : List Int ⊕ Nat) (v : Value) : Prop := match r with
  | .inl xs => Own w' base 5 .u8 v xs
  | .inr _ => v = .slice none 0 0
/-- The second. -/
def OpE (P : Nat → Addr) (r : List Int ⊕ Nat) (er : Value) : Prop := match r with
  | .inl _ => er = .nilIface
  | .inr k => er = errV (P k)
theorem Opened.v {w' : World} {base : Nat} {P : Nat → Addr} {r : List Int ⊕ Nat} {v er : Value} (h : Opened w' base P r v er) : OpV w' base r v := by
  cases r <;> exact h.2
theorem Opened.e {w' : World} {base : Nat} {P : Nat → Addr} {r : List Int ⊕ Nat} {v er : Value} (h : Opened w' base P r v er) : OpE P r er := by
  cases r <;> exact h.1
theorem opened {w' : World} {base : Nat} {P : Nat → Addr} {r : List Int ⊕ Nat} {v er : Value} (h : OpV w' base r v) (k : OpE P r er) : Opened w' base P r v er := by
  cases r <;> exact ⟨k, h⟩
theorem OpV.below {w w' : World} {base : Nat} {r : List Int ⊕ Nat} {v : Value} (h : OpV w base r v) (hb : Below w.heap.size w w') : OpV w' base r v := by
  cases r with
  | inl xs => exact Own.below h hb
  | inr k => exact h
theorem OpV.lower {w : World} {b base : Nat} {r : List Int ⊕ Nat} {v : Value} (h : OpV w base r v) (hb : b ≤ base) : OpV w b r v := by
  cases r with
  | inl xs => exact Own.lower h hb
  | inr k => exact h
set_option maxHeartbeats 400000 in
set_option maxRecDepth 100000 in
theorem sopen_calls (key : List Int) (i : Int) (last : Bool) (b : List Int) (A : Option Addr) (n c : Nat) {w : World} {P : Nat → Addr} (hE : Errs2 w P) (hk : key.length = 32) (rk : bytesOk key) (hi : 0 ≤ i ∧ i < 4294967296)
    (hn : n = b.length) (hc : n ≤ c) (hr : Rd w A .u8 b) (rb : bytesOk b) (hlb : b.length ≤ 100000) :
    Calls Tryd.prog 33 #[.agg (ints .u8 key).toArray, .int .u32 i, .bool last, .slice A n c] w fun e w' => ∃ v er, e = .returned (.tuple #[v, er]) ∧ Opened w' w.heap.size P (openOf key (nonceOf i last) [] b) v er ∧ Below w.heap.size w w' := by
  obtain ⟨r, hr0⟩ : ∃ r, Hd (openOf key (nonceOf i last) [] b = r) := ⟨_, ⟨rfl⟩⟩
  rw [hr0.out]
  have HN := hid hn
  clear hn
  go_enter Tryd.func33, Tryd.ntmps33
  go_wp2_with (first
    | (refine box_blk rfl 23 _ rfl _ rfl (ints .u8 key) rfl ?_; intro g4 w1 hg4 hb4 hB1 hs1; clear hg4 hs1)
    | fail)
  refine wp_region_facts (ix := [[0], [1], [2], [3], [4], [5], [6], [7], [8], [9]]) (S := fun w' => Blk w' g4 23 (ints .u8 key) ∧ Below w.heap.size w w')
    (R := fun w1 w2 => Below w1.heap.size w1 w2)
    (p := fun jO vs w' => match jO with
      | 0 => vs 0 = .agg (ints .u8 key).toArray
      | 1 => vs 1 = .int .u32 i
      | 2 => vs 2 = .bool last
      | 3 => vs 3 = .agg (ints .u8 (nonceOf i last)).toArray
      | 4 => vs 4 = .slice A n c
      | 5 => ∃ v er, vs 5 = .tuple #[v, er] ∧ OpV w' w.heap.size r v ∧ OpE P r er
      | 6 => OpV w' w.heap.size r (vs 6)
      | 7 => OpE P r (vs 7)
      | 8 => OpV w' w.heap.size r (vs 8)
      | 9 => OpE P r (vs 9)
      | _ => True)
    (by kernel_rfl) (by kernel_rfl) ?_ ?_ ?_ ?_
  · exact ⟨hb4.drew, below_drewN hB1 1⟩
  · intro jO vs w1 w2 hR h
    match jO with
    | 0 | 1 | 2 | 3 | 4 | 7 | 9 => exact h
    | 5 => obtain ⟨v, er, h1, h2, h3⟩ := h; exact ⟨v, er, h1, h2.below hR, h3⟩
    | 6 => exact OpV.below h hR
    | 8 => exact OpV.below h hR
    | nO + 10 => trivial
  · refine ⟨?_, ?_, ?_, ?_, ?_, ?_, ?_, ?_, ?_, ?_, trivial⟩
    · (intro vs w2 hS hd; simp [Region.binds, Fact.at] at hd; simp only [fill, List.take_succ_cons, List.take_zero, Act.put, List.setIfInBounds_toArray, List.set_cons_zero, List.set_cons_succ, Nat.reduceAdd])
      try simp only [hd]
      go_wp2_with (first
        | (refine load_blk rfl 23 _ rfl g4 rfl 23 _ hS.1 32 5 arr23 (by simp [ints, hk]) info23 ?_)
        | fail)
      exact ⟨rfl, rfl, hS, Below.refl _ _⟩
    · (intro vs w2 hS hd; simp [Region.binds, Fact.at] at hd; simp only [fill, List.take_succ_cons, List.take_zero, Act.put, List.setIfInBounds_toArray, List.set_cons_zero, List.set_cons_succ, Nat.reduceAdd])
      try simp only [hd]
      go_wp2_with fail
      exact ⟨rfl, rfl, hS, Below.refl _ _⟩
    · (intro vs w2 hS hd; simp [Region.binds, Fact.at] at hd; simp only [fill, List.take_succ_cons, List.take_zero, Act.put, List.setIfInBounds_toArray, List.set_cons_zero, List.set_cons_succ, Nat.reduceAdd])
      try simp only [hd]
      go_wp2_with fail
      exact ⟨rfl, rfl, hS, Below.refl _ _⟩
    · (intro vs w2 hS hd; simp [Region.binds, Fact.at] at hd; simp only [fill, List.take_succ_cons, List.take_zero, Act.put, List.setIfInBounds_toArray, List.set_cons_zero, List.set_cons_succ, Nat.reduceAdd])
      simp only [hd]
      go_wp2_with (first
        | (go_at_call 49; refine (nonce_calls i last w2 hi).mono ?_; rintro e w3 ⟨rfl, hB⟩)
        | fail)
      exact ⟨rfl, rfl, ⟨hS.1.belowAll hB, below_then hS.2 hS.2.size hB⟩, hB⟩
    · (intro vs w2 hS hd; simp [Region.binds, Fact.at] at hd; simp only [fill, List.take_succ_cons, List.take_zero, Act.put, List.setIfInBounds_toArray, List.set_cons_zero, List.set_cons_succ, Nat.reduceAdd])
      try simp only [hd]
      go_wp2_with fail
      exact ⟨rfl, rfl, hS, Below.refl _ _⟩
    · (intro vs w2 hS hd; simp [Region.binds, Fact.at] at hd; simp only [fill, List.take_succ_cons, List.take_zero, Act.put, List.setIfInBounds_toArray, List.set_cons_zero, List.set_cons_succ, Nat.reduceAdd])
      simp only [hd]
      go_wp2_with (first
        | (go_at_call 17; refine (open_calls key (nonceOf i last) [] b none A 0 c 0 n (hE.below hS.2) hk (nonceOf_length _ _) rk (nonceOf_ok i last hi) rfl (fun _ => rfl) (Rd.nil _ _ _) HN.out hc (hr.below hS.2) rb (by simp) hlb).mono ?_; rintro e w3 ⟨v, er, rfl, hop, hB⟩; rw [hr0.out] at hop)
        | fail)
      exact ⟨rfl, ⟨v, er, rfl, hop.v.lower hS.2.size, hop.e⟩, ⟨hS.1.belowAll hB, below_then hS.2 hS.2.size hB⟩, hB⟩
    · (intro vs w2 hS hd; simp [Region.binds, Fact.at] at hd; simp only [fill, List.take_succ_cons, List.take_zero, Act.put, List.setIfInBounds_toArray, List.set_cons_zero, List.set_cons_succ, Nat.reduceAdd])
      obtain ⟨v, er, h1, h2, h3⟩ := hd
      simp only [h1]
      go_wp2_with fail
      exact ⟨rfl, h2, hS, Below.refl _ _⟩
    · (intro vs w2 hS hd; simp [Region.binds, Fact.at] at hd; simp only [fill, List.take_succ_cons, List.take_zero, Act.put, List.setIfInBounds_toArray, List.set_cons_zero, List.set_cons_succ, Nat.reduceAdd])
      obtain ⟨v, er, h1, h2, h3⟩ := hd
      simp only [h1]
      go_wp2_with fail
      exact ⟨rfl, h3, hS, Below.refl _ _⟩
    · (intro vs w2 hS hd; simp [Region.binds, Fact.at] at hd; simp only [fill, List.take_succ_cons, List.take_zero, Act.put, List.setIfInBounds_toArray, List.set_cons_zero, List.set_cons_succ, Nat.reduceAdd])
      go_wp2_with fail
      exact ⟨rfl, hd.1, hS, Below.refl _ _⟩
    · (intro vs w2 hS hd; simp [Region.binds, Fact.at] at hd; simp only [fill, List.take_succ_cons, List.take_zero, Act.put, List.setIfInBounds_toArray, List.set_cons_zero, List.set_cons_succ, Nat.reduceAdd])
      go_wp2_with fail
      exact ⟨rfl, hd.1, hS, Below.refl _ _⟩
  · intro vs wq hf hS
    have h8 : OpV wq w.heap.size r (vs 8) := hf 8 (by simp)
    have h9 : OpE P r (vs 9) := hf 9 (by simp)
    simp only [fill, Act.put, List.setIfInBounds_toArray, List.set_cons_zero, List.set_cons_succ, Nat.reduceAdd]
    clear hf
    go_wp2_with fail
    refine bodyPost_ret (results_tmp2 rfl _ _ rfl rfl) rfl ?_
    exact ⟨_, _, rfl, opened h8 h9, hS.2⟩
end Go.Proofs.YtpmmmbilfblcpaaDoor
