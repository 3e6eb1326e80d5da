/- The tag's numbers: the parts of seventeen bytes; what is taken in. -/
import Derived.Test.YtpmmmbilfblcpaaDoorMatC
namespace Go.Proofs.YtpmmmbilfblcpaaDoor
open Go.RowKit Go.Cour
/-- No more bits than a part has. -/
theorem dig_cap (b : List Int) (k : Nat) (hk4 : k < 4) : ∀ n, dig b n k < 2 ^ (min n (26 * (k + 1)) - 26 * k)
  | 0 => by
    have : (0 : Int) < 2 ^ (min 0 (26 * (k + 1)) - 26 * k) := Int.pow_pos (by decide)
    exact this
  | n + 1 => by
    by_cases hk : min (n / 26) 4 = k
    · have h := (dig_in b k (n + 1)).2
      rw [show min (n + 1) (26 * (k + 1)) = n + 1 by omega]
      exact h
    · have ih := dig_cap b k hk4 n
      have e : dig b (n + 1) k = dig b n k := by simp [dig, hk]
      rw [e]
      have hp : (2 : Int) ^ (min n (26 * (k + 1)) - 26 * k) ≤ 2 ^ (min (n + 1) (26 * (k + 1)) - 26 * k) := by
        have h1 : (2 : Nat) ^ (min n (26 * (k + 1)) - 26 * k) ≤ 2 ^ (min (n + 1) (26 * (k + 1)) - 26 * k) := Nat.pow_le_pow_right (by decide) (by omega)
        exact_mod_cast h1
      omega
theorem and1_u8 (x : Int) (h0 : 0 ≤ x) (h1 : x < 256) : bits .and .u8 x 1 = x % 2 :=
  bits_mask .u8 8 (by decide) (fun n h0 h1 => by rw [IntKind.wrap_u8]; omega) 1 (by decide) x h0 (by simpa using h1)
theorem pbit_num (b : List Int) (h : ∀ i, 0 ≤ rd b i ∧ rd b i < 256) (i : Nat) (hi : i < 136) : pbit b i = bitB b i * 2 ^ (i - 26 * min (i / 26) 4) := by
  have hx := h (i / 8)
  have hd : 0 ≤ rd b (i / 8) / 2 ^ (i % 8) ∧ rd b (i / 8) / 2 ^ (i % 8) < 256 := by
    have hp : (0 : Int) < 2 ^ (i % 8) := Int.pow_pos (by decide)
    refine ⟨Int.ediv_nonneg hx.1 (by omega), ?_⟩
    have := Int.ediv_le_self (2 ^ (i % 8)) hx.1
    omega
  have hb := bitB_in b i
  unfold pbit
  rw [and1_u8 _ hd.1 hd.2]
  change u64 (u64 (bitB b i) * 2 ^ (i - 26 * min (i / 26) 4)) = _
  have hs : i - 26 * min (i / 26) 4 ≤ 31 := by omega
  generalize i - 26 * min (i / 26) 4 = s at *
  have hp1 : (2 : Int) ^ s ≤ 2147483648 := by
    have h1 : (2 : Nat) ^ s ≤ 2147483648 := Nat.le_trans (Nat.pow_le_pow_right (by decide) hs) (Nat.le_refl (2 ^ 31))
    have h2 : (2 : Int) ^ s = ((2 ^ s : Nat) : Int) := by simp
    omega
  have hp0 : (0 : Int) < 2 ^ s := Int.pow_pos (by decide)
  rw [u64_in (bitB b i) (by omega)]
  have hc : bitB b i = 0 ∨ bitB b i = 1 := by omega
  rcases hc with hc | hc <;> rw [hc]
  · rw [Int.zero_mul]; rfl
  · rw [Int.one_mul, u64_in _ (by omega)]
theorem or_add (L t : Int) (s : Nat) (hL : 0 ≤ L ∧ L < 2 ^ s) (ht : t = 0 ∨ t = 1) (hs : s ≤ 40) : bits .or .u64 L (t * 2 ^ s) = L + t * 2 ^ s := by
  obtain ⟨a, rfl⟩ : ∃ a : Nat, L = (a : Int) := ⟨L.toNat, by omega⟩
  obtain ⟨u, rfl⟩ : ∃ u : Nat, t = (u : Int) := ⟨t.toNat, by omega⟩
  have ha : a < 2 ^ s := by exact_mod_cast hL.2
  have hp : (2 : Nat) ^ s ≤ 2 ^ 40 := Nat.pow_le_pow_right (by decide) hs
  have e : ((u : Int) * 2 ^ s) = ((2 ^ s * u : Nat) : Int) := by rw [Nat.mul_comm]; simp
  have hu : u = 0 ∨ u = 1 := by omega
  have hb : 2 ^ s * u < 18446744073709551616 := by
    rcases hu with rfl | rfl
    · simp
    · rw [Nat.mul_one]; omega
  rw [e, bits_or_u64_nat a _ (by omega) hb, Nat.or_comm, ← Nat.two_pow_add_eq_or_of_lt ha]
  omega
theorem partsTo_rd (b : List Int) (h : ∀ i, 0 ≤ rd b i ∧ rd b i < 256) (k : Nat) (hk5 : k < 5) : ∀ n, n ≤ 136 → rd (partsTo b n) k = dig b n k
  | 0, _ => by
    have hk : k = 0 ∨ k = 1 ∨ k = 2 ∨ k = 3 ∨ k = 4 := by omega
    rcases hk with rfl | rfl | rfl | rfl | rfl <;> rfl
  | n + 1, hn => by
    have ih := partsTo_rd b h k hk5 n (by omega)
    rw [partsTo_succ, rd_set', partsTo_length]
    unfold dig
    by_cases hk : min (n / 26) 4 = k
    · rw [if_pos ⟨hk, hk5⟩, if_pos hk, pbit_num b h n (by omega), hk, ih]
      have hd := dig_in b k n
      have hb := bitB_in b n
      exact or_add _ _ _ hd (by omega) (by omega)
    · rw [if_neg (fun hh => hk hh.1), if_neg hk, ih]
      omega
theorem parts_val (b : List Int) (h : ∀ i, 0 ≤ rd b i ∧ rd b i < 256) : val5 (parts b) = valB b 17 := by
  have hs := dig_sum b 136
  rw [sumB_valB b h 17] at hs
  unfold val5 parts
  rw [partsTo_rd b h 0 (by omega) 136 (by omega), partsTo_rd b h 1 (by omega) 136 (by omega), partsTo_rd b h 2 (by omega) 136 (by omega), partsTo_rd b h 3 (by omega) 136 (by omega), partsTo_rd b h 4 (by omega) 136 (by omega)]
  have e1 : (2 : Int) ^ 26 = 67108864 := by decide
  have e2 : (2 : Int) ^ 52 = 4503599627370496 := by decide
  have e3 : (2 : Int) ^ 78 = 302231454903657293676544 := by decide
  have e4 : (2 : Int) ^ 104 = 20282409603651670423947251286016 := by decide
  rw [e1, e2, e3, e4] at hs
  exact hs
theorem parts_in (b : List Int) (h : ∀ i, 0 ≤ rd b i ∧ rd b i < 256) (k : Nat) (hk : k < 4) : 0 ≤ rd (parts b) k ∧ rd (parts b) k < 67108864 := by
  unfold parts
  rw [partsTo_rd b h k (by omega) 136 (by omega)]
  have h1 := (dig_in b k 136).1
  have h2 := dig_cap b k hk 136
  rw [show min 136 (26 * (k + 1)) - 26 * k = 26 by omega] at h2
  have e1 : (2 : Int) ^ 26 = 67108864 := by decide
  rw [e1] at h2
  exact ⟨h1, h2⟩
theorem parts_in4 (b : List Int) (h : ∀ i, 0 ≤ rd b i ∧ rd b i < 256) : 0 ≤ rd (parts b) 4 ∧ rd (parts b) 4 * 20282409603651670423947251286016 ≤ valB b 17 := by
  have h0 := parts_in b h 0 (by omega)
  have h1 := parts_in b h 1 (by omega)
  have h2 := parts_in b h 2 (by omega)
  have h3 := parts_in b h 3 (by omega)
  have h4 : 0 ≤ rd (parts b) 4 := by
    unfold parts
    rw [partsTo_rd b h 4 (by omega) 136 (by omega)]
    exact (dig_in b 4 136).1
  have hv := parts_val b h
  unfold val5 at hv
  omega
theorem valB_in (b : List Int) (h : ∀ i, 0 ≤ rd b i ∧ rd b i < 256) : ∀ n, 0 ≤ valB b n ∧ valB b n < 2 ^ (8 * n)
  | 0 => ⟨Int.le_refl _, by show (0 : Int) < 2 ^ 0; decide⟩
  | n + 1 => by
    have ih := valB_in b h n
    have hx := h n
    have hp : (0 : Int) < 2 ^ (8 * n) := Int.pow_pos (by decide)
    have e : (2 : Int) ^ (8 * (n + 1)) = 2 ^ (8 * n) * 256 := by rw [show 8 * (n + 1) = 8 * n + 8 by omega, Int.pow_add]; rfl
    unfold valB
    rw [e]
    generalize (2 : Int) ^ (8 * n) = p at *
    have h1 : 0 ≤ rd b n * p := Int.mul_nonneg hx.1 (by omega)
    have h2 : rd b n * p ≤ 255 * p := Int.mul_le_mul_of_nonneg_right (by omega) (by omega)
    omega
/-- Bytes are told by their number. -/
theorem valB_inj (a b : List Int) (ha : ∀ i, 0 ≤ rd a i ∧ rd a i < 256) (hb : ∀ i, 0 ≤ rd b i ∧ rd b i < 256) : ∀ n, valB a n = valB b n → ∀ i, i < n → rd a i = rd b i
  | 0, _, i, hi => absurd hi (Nat.not_lt_zero _)
  | n + 1, h, i, hi => by
    have h1 := valB_in a ha n
    have h2 := valB_in b hb n
    have hp : (0 : Int) < 2 ^ (8 * n) := Int.pow_pos (by decide)
    have hx := ha n
    have hy := hb n
    unfold valB at h
    generalize hpp : (2 : Int) ^ (8 * n) = p at *
    have hd : rd a n = rd b n := by
      rcases Int.lt_trichotomy (rd a n) (rd b n) with hlt | he | hlt
      · have : (rd a n + 1) * p ≤ rd b n * p := Int.mul_le_mul_of_nonneg_right (by omega) (by omega)
        rw [Int.add_mul] at this
        omega
      · exact he
      · have : (rd b n + 1) * p ≤ rd a n * p := Int.mul_le_mul_of_nonneg_right (by omega) (by omega)
        rw [Int.add_mul] at this
        omega
    by_cases hin : i = n
    · subst hin; exact hd
    · rw [hd] at h
      exact valB_inj a b ha hb n (by omega) i (by omega)
end Go.Proofs.YtpmmmbilfblcpaaDoor
