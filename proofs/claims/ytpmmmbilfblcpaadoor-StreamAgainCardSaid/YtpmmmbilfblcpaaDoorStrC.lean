/- stream.Piece. -/
import Derived.Test.YtpmmmbilfblcpaaDoorStrB
import Derived.Test.YtpmmmbilfblcpaaDoorClone
namespace Go.Proofs.YtpmmmbilfblcpaaDoor
open Go.RowKit Go.Cour
attribute [local go_sem] max2_int min2_int
/-- A piece of a file. -/
def pieceOf (xs : List Int) (q i : Int) : List Int := if i < 0 ∨ (xs.length : Int) / max q 1 < i then [] else (xs.drop (i * max q 1).toNat).take (max q 1).toNat
theorem rd_sliceC {w : World} {A : Option Addr} {k : IntKind} {xs : List Int} (h : Rd w A k xs) (f : Nat) : Rd w (A.map (·.add f)) k (xs.drop f) := by
  rcases h with h | ⟨g, o, rfl, h⟩
  · exact .inl (by rw [h]; simp)
  · refine .inr ⟨g, o + f, by rw [Option.map_some, add_lit], fun i hi => ?_⟩
    rw [rd_drop, Nat.add_assoc]
    exact h _ (by rw [List.length_drop] at hi; omega)
theorem min_k1 (n f k : Nat) (c : Int) (hc : 1 ≤ c) (hk : k = min c.toNat (n - f)) (hf : f ≤ n) : (if (n : Int) - (f : Int) < c then (n : Int) - (f : Int) else c) = (k : Int) := by
  by_cases h : (n : Int) - (f : Int) < c
  · rw [if_pos h]; omega
  · rw [if_neg h]; omega
theorem min_k2 (n f k : Nat) (c : Int) (hc : 1 ≤ c) (hk : k = min c.toNat (n - f)) (hf : f ≤ n) : (if c < (n : Int) - (f : Int) then c else (n : Int) - (f : Int)) = (k : Int) := by
  by_cases h : c < (n : Int) - (f : Int)
  · rw [if_pos h]; omega
  · rw [if_neg h]; omega
set_option maxHeartbeats 400000 in
set_option maxRecDepth 100000 in
theorem piece_calls (xs : List Int) (A : Option Addr) (n cap : Nat) (q i : Int) (w : World) (hn : n = xs.length) (hA : A = none → cap = 0) (hcap : n ≤ cap) (hr : Rd w A .u8 xs) (hl : xs.length ≤ 100000)
    (hq : -1000000 ≤ q ∧ q ≤ 1000000) (hi : -1000000 ≤ i ∧ i ≤ 1000000) :
    Calls Tryd.prog 28 #[.slice A n cap, .int .i64 q, .int .i64 i] w fun e w' => ∃ v, e = .returned v ∧ Own w' w.heap.size 5 .u8 v (pieceOf xs q i) ∧ Below w.heap.size w w' := by
  have HN := hid hn
  have HR := hid hr
  rw [← hn] at hl
  clear hn hr
  obtain ⟨c, hc⟩ : ∃ c : Int, c = max q 1 := ⟨_, rfl⟩
  have c1 : 1 ≤ c := by omega
  have c2 : c ≤ 1000000 := by omega
  have m1 : (if q < 1 then (1 : Int) else q) = c := by split <;> omega
  obtain ⟨d, hd⟩ : ∃ d : Int, Hd ((n : Int) / c = d) := ⟨_, ⟨rfl⟩⟩
  have hpc : pieceOf xs q i = if i < 0 ∨ d < i then [] else (xs.drop (i * c).toNat).take c.toNat := by rw [pieceOf, ← hc, ← HN.out, hd.out]
  rw [hpc]
  clear hpc hc
  by_cases h0 : i < 0
  · rw [if_pos (.inl h0)]
    go_enter Tryd.func28, Tryd.ntmps28
    go_wp2_with fail
    go_ret
    exact ⟨_, rfl, Own.nil _ _ _ _, Below.refl _ _⟩
  · have hd0 : 0 ≤ d := by rw [← hd.out]; exact Int.ediv_nonneg (by omega) (by omega)
    have hdn : d ≤ n := by rw [← hd.out]; exact Int.ediv_le_self _ (by omega)
    by_cases h1 : d < i
    · rw [if_pos (.inr h1)]
      have w1 := hd.out
      go_enter Tryd.func28, Tryd.ntmps28
      go_wp2_with fail
      go_ret
      exact ⟨_, rfl, Own.nil _ _ _ _, Below.refl _ _⟩
    · rw [if_neg (by omega)]
      obtain ⟨f, hf⟩ : ∃ f : Nat, Hd ((f : Int) = i * c) := ⟨(i * c).toNat, ⟨Int.toNat_of_nonneg (Int.mul_nonneg (by omega) (by omega))⟩⟩
      have hfn : f ≤ n := by
        have h3 : i * c ≤ d * c := Int.mul_le_mul_of_nonneg_right (by omega) (by omega)
        have h4 : d * c ≤ n := hd.out ▸ Int.ediv_mul_le _ (by omega)
        have h5 := hf.out
        generalize i * c = ic at *
        generalize d * c = dc at *
        omega
      obtain ⟨k, hk⟩ : ∃ k : Nat, Hd (k = min c.toNat (n - f)) := ⟨_, ⟨rfl⟩⟩
      have hkn : f + k ≤ n := by have := hk.out; omega
      have hp : Hd ((xs.drop (i * c).toNat).take c.toNat = (xs.drop f).take k) := ⟨by
        rw [← hf.out, Int.toNat_natCast, hk.out]
        rcases Nat.le_total c.toNat (n - f) with h | h
        · rw [Nat.min_eq_left h]
        · rw [Nat.min_eq_right h, List.take_of_length_le (by rw [List.length_drop, ← HN.out]; exact h), List.take_of_length_le (by rw [List.length_drop, ← HN.out]; exact Nat.le_refl _)]⟩
      rw [hp.out]
      have m2 := min_k1 n f k c c1 hk.out hfn
      have m3 := min_k2 n f k c c1 hk.out hfn
      have w2 : wrap64 (i * c) = (f : Int) := by rw [← hf.out]; exact IntWalk.wrap64_in _ (by omega)
      have w1 := hd.out
      have hlen : Hd (k = ((xs.drop f).take k).length) := ⟨by rw [List.length_take, List.length_drop, ← HN.out]; omega⟩
      by_cases hcf : cap = f
      · obtain rfl : k = 0 := by omega
        go_enter Tryd.func28, Tryd.ntmps28
        go_wp2_with (first
          | (go_at_call 48; refine (clone_calls _ _ _ ((xs.drop f).take 0) _ (by simp; omega) (fun _ => rfl) (Rd.nil _ _ _) (by simp)).mono ?_; rintro e w' ⟨v, rfl, ho, hb⟩)
          | fail)
        go_ret
        exact ⟨_, rfl, ho, hb⟩
      · go_enter Tryd.func28, Tryd.ntmps28
        go_wp2_with (first
          | (go_at_call 48; refine (clone_calls _ _ _ ((xs.drop f).take k) _ hlen.out (fun hn => by have hc0 := hA (Option.map_eq_none_iff.1 hn); omega) ((rd_sliceC HR.out f).take k) (by rw [← hlen.out]; omega)).mono ?_; rintro e w' ⟨v, rfl, ho, hb⟩)
          | fail)
        go_ret
        exact ⟨_, rfl, ho, hb⟩
end Go.Proofs.YtpmmmbilfblcpaaDoor
