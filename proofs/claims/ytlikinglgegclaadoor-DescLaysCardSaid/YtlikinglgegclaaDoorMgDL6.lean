import Derived.Test.YtlikinglgegclaaDoorProg
import Derived.Deep.QuietTactic
import Derived.BigQuiet
import Derived.Test.YtlikinglgegclaaDoorMgDL0
import Derived.Test.YtlikinglgegclaaDoorMgDL1
import Derived.Test.YtlikinglgegclaaDoorMgDL2
import Derived.Test.YtlikinglgegclaaDoorMgDL3
import Derived.Test.YtlikinglgegclaaDoorMgDL4
import Derived.Test.YtlikinglgegclaaDoorMgDL5
set_option linter.unusedSimpArgs false
set_option linter.unusedVariables false
/- The tag's numbers: brought below the modulus; the lowest 128 bits; a tag's bytes. -/
namespace Go.Proofs.YtlikinglgegclaaDoor
open Go.RowKit Go.Cour
/-- One way through the parts: what is left is carried out. -/
theorem carryTo_val (a : List Int) (hl : a.length = 5) (h : ∀ i, i < 5 → 0 ≤ rd a i ∧ rd a i < 4611686018427387904) :
    0 ≤ (carryTo a 5).2 ∧ val5 (carryTo a 5).1 = val5 a - (carryTo a 5).2 * 1361129467683753853853498429727072845824 ∧ (∀ i, i < 5 → 0 ≤ rd (carryTo a 5).1 i ∧ rd (carryTo a 5).1 i < 67108864) ∧ (carryTo a 5).1.length = 5 := by
  have h0 := h 0 (by omega)
  have h1 := h 1 (by omega)
  have h2 := h 2 (by omega)
  have h3 := h 3 (by omega)
  have h4 := h 4 (by omega)
  generalize ha0 : rd a 0 = a0 at *
  generalize ha1 : rd a 1 = a1 at *
  generalize ha2 : rd a 2 = a2 at *
  generalize ha3 : rd a 3 = a3 at *
  generalize ha4 : rd a 4 = a4 at *
  have ha : a = [a0, a1, a2, a3, a4] := by rw [list5 a hl, ha0, ha1, ha2, ha3, ha4]
  obtain ⟨o0, ho0⟩ : ∃ o, o = a0 / 67108864 := ⟨_, rfl⟩
  obtain ⟨o1, ho1⟩ : ∃ o, o = (a1 + o0) / 67108864 := ⟨_, rfl⟩
  obtain ⟨o2, ho2⟩ : ∃ o, o = (a2 + o1) / 67108864 := ⟨_, rfl⟩
  obtain ⟨o3, ho3⟩ : ∃ o, o = (a3 + o2) / 67108864 := ⟨_, rfl⟩
  obtain ⟨o4, ho4⟩ : ∃ o, o = (a4 + o3) / 67108864 := ⟨_, rfl⟩
  have hc : carryTo a 5 = ([a0 % 67108864, (a1 + o0) % 67108864, (a2 + o1) % 67108864, (a3 + o2) % 67108864, (a4 + o3) % 67108864], o4) := by
    have e : carryTo a 5 = carry1 (carry1 (carry1 (carry1 (carry1 (a, 0) 0) 1) 2) 3) 4 := rfl
    rw [e, ha, carry1_0 _ _ _ _ _ _ (by omega), Int.add_zero, ← ho0, carry1_1 _ _ _ _ _ _ (by omega), ← ho1, carry1_2 _ _ _ _ _ _ (by omega), ← ho2, carry1_3 _ _ _ _ _ _ (by omega), ← ho3, carry1_4 _ _ _ _ _ _ (by omega), ← ho4]
  rw [hc]
  refine ⟨by show 0 ≤ o4; omega, ?_, fun i hi => ?_, rfl⟩
  · show a0 % 67108864 + (a1 + o0) % 67108864 * 67108864 + (a2 + o1) % 67108864 * 4503599627370496 + (a3 + o2) % 67108864 * 302231454903657293676544 + (a4 + o3) % 67108864 * 20282409603651670423947251286016 = _ - o4 * _
    unfold val5
    rw [ha0, ha1, ha2, ha3, ha4]
    omega
  · have hh : i = 0 ∨ i = 1 ∨ i = 2 ∨ i = 3 ∨ i = 4 := by omega
    rcases hh with rfl | rfl | rfl | rfl | rfl
    · show 0 ≤ a0 % 67108864 ∧ a0 % 67108864 < 67108864; omega
    · show 0 ≤ (a1 + o0) % 67108864 ∧ (a1 + o0) % 67108864 < 67108864; omega
    · show 0 ≤ (a2 + o1) % 67108864 ∧ (a2 + o1) % 67108864 < 67108864; omega
    · show 0 ≤ (a3 + o2) % 67108864 ∧ (a3 + o2) % 67108864 < 67108864; omega
    · show 0 ≤ (a4 + o3) % 67108864 ∧ (a4 + o3) % 67108864 < 67108864; omega
/-- Carried twice more, each part is one. -/
theorem carry2_full (a : List Int) (h : Near a) : (∃ o : Int, val5 (carryN a 2) = val5 a - o * pP) ∧ (carryN a 2).length = 5 ∧ ∀ i, i < 5 → 0 ≤ rd (carryN a 2) i ∧ rd (carryN a 2) i < 67108864 := by
  have e : carryN a 2 = carryRound (carryRound a) := (carryN_succ a 1).trans (congrArg carryRound ((carryN_succ a 0).trans (congrArg carryRound (carryN_zero a))))
  have h0 := h.lo
  have h1 := h.hi 1 (by omega) (by omega)
  have h2 := h.hi 2 (by omega) (by omega)
  have h3 := h.hi 3 (by omega) (by omega)
  have h4 := h.hi 4 (by omega) (by omega)
  obtain ⟨o, ho, hv, hb0, hb, hob⟩ := carryRound_val a h.len (fun i hi => by have := h.in i hi; omega)
  have hb1 := hb 1 (by omega) (by omega)
  have hb2 := hb 2 (by omega) (by omega)
  have hb3 := hb 3 (by omega) (by omega)
  have hb4 := hb 4 (by omega) (by omega)
  have hl1 : (carryRound a).length = 5 := by rw [carryRound_length, h.len]
  have hc0 : rd (carryRound a) 0 < 67108864 := by
    have : o = 0 ∨ o = 1 := by omega
    rcases this with rfl | rfl
    · omega
    · unfold val5 pP at hv; omega
  obtain ⟨o', ho', hv', hb0', hb', hob'⟩ := carryRound_val (carryRound a) hl1 (fun i hi => by
    have hh : i = 0 ∨ i = 1 ∨ i = 2 ∨ i = 3 ∨ i = 4 := by omega
    rcases hh with rfl | rfl | rfl | rfl | rfl <;> omega)
  have hb1' := hb' 1 (by omega) (by omega)
  have hb2' := hb' 2 (by omega) (by omega)
  have hb3' := hb' 3 (by omega) (by omega)
  have hb4' := hb' 4 (by omega) (by omega)
  have hc0' : rd (carryRound (carryRound a)) 0 < 67108864 := by
    have : o' = 0 ∨ o' = 1 := by omega
    rcases this with rfl | rfl
    · omega
    · unfold val5 pP at hv'; omega
  rw [e]
  refine ⟨⟨o + o', by rw [hv', hv, Int.add_mul]; omega⟩, by rw [carryRound_length, hl1], fun i hi => ?_⟩
  have hh : i = 0 ∨ i = 1 ∨ i = 2 ∨ i = 3 ∨ i = 4 := by omega
  rcases hh with rfl | rfl | rfl | rfl | rfl <;> omega
theorem lowA_val (a : List Int) (h : Near a) : val5 (lowA a) = val5 a % pP ∧ (∀ i, i < 5 → 0 ≤ rd (lowA a) i ∧ rd (lowA a) i < 67108864) := by
  obtain ⟨⟨o, ho⟩, hl, hb⟩ := carry2_full a h
  have hla : lowA a = if 0 < (more5 (carryN a 2)).2 then (more5 (carryN a 2)).1 else carryN a 2 := rfl
  rw [hla]
  clear hla
  have hmod : val5 a % pP = val5 (carryN a 2) % pP := by
    have : val5 a = val5 (carryN a 2) + pP * o := by rw [ho, Int.mul_comm]; omega
    rw [this, Int.add_mul_emod_self_left]
  rw [hmod]
  clear hmod ho
  generalize carryN a 2 = c at *
  have hb0 := hb 0 (by omega)
  have hb1 := hb 1 (by omega)
  have hb2 := hb 2 (by omega)
  have hb3 := hb 3 (by omega)
  have hb4 := hb 4 (by omega)
  have hcv : 0 ≤ val5 c ∧ val5 c < 1361129467683753853853498429727072845824 := by unfold val5; omega
  have hs : ∀ i, rd (c.set 0 (u64 (rd c 0 + 5))) i = if 0 = i ∧ i < 5 then rd c 0 + 5 else rd c i := fun i => by rw [rd_set', hl, u64_in _ (by omega)]
  have hsv : val5 (c.set 0 (u64 (rd c 0 + 5))) = val5 c + 5 := by
    unfold val5
    rw [hs 0, hs 1, hs 2, hs 3, hs 4]
    simp
    omega
  obtain ⟨hm1, hm2, hm3, hm4⟩ := carryTo_val (c.set 0 (u64 (rd c 0 + 5))) (by simp [hl]) (fun i hi => by
    rw [hs i]
    have := hb i hi
    split <;> omega)
  have hx0 := hm3 0 (by omega)
  have hx1 := hm3 1 (by omega)
  have hx2 := hm3 2 (by omega)
  have hx3 := hm3 3 (by omega)
  have hx4 := hm3 4 (by omega)
  have hmv : 0 ≤ val5 (carryTo (c.set 0 (u64 (rd c 0 + 5))) 5).1 ∧ val5 (carryTo (c.set 0 (u64 (rd c 0 + 5))) 5).1 < 1361129467683753853853498429727072845824 := by unfold val5; omega
  rw [hsv] at hm2
  have hmo : more5 c = carryTo (c.set 0 (u64 (rd c 0 + 5))) 5 := rfl
  rw [hmo]
  clear hmo hs hsv
  generalize carryTo (c.set 0 (u64 (rd c 0 + 5))) 5 = M at *
  have hp : pP = 1361129467683753853853498429727072845819 := rfl
  by_cases hpos : 0 < M.2
  · rw [if_pos hpos]
    refine ⟨?_, hm3⟩
    generalize val5 c = V at *
    generalize val5 M.1 = W at *
    generalize M.2 = O at *
    have ho1 : O = 1 := by omega
    subst ho1
    have e : V = W + pP * 1 := by omega
    rw [e, Int.add_mul_emod_self_left]
    exact (Int.emod_eq_of_lt (by omega) (by omega)).symm
  · rw [if_neg hpos]
    refine ⟨?_, hb⟩
    generalize val5 c = V at *
    generalize val5 M.1 = W at *
    generalize M.2 = O at *
    have ho1 : O = 0 := by omega
    subst ho1
    exact (Int.emod_eq_of_lt (by omega) (by omega)).symm
end Go.Proofs.YtlikinglgegclaaDoor
/- The tag's numbers: its sixteen bytes. -/
namespace Go.Proofs.YtlikinglgegclaaDoor
open Go.RowKit Go.Cour
theorem or_add2 (L t : Int) (s : Nat) (hL : 0 ≤ L ∧ L < 2 ^ s) (ht : 0 ≤ t) (hb : t * 2 ^ s < 18446744073709551616) (hs : (2 : Int) ^ s ≤ 18446744073709551616) : bits .or .u64 L (t * 2 ^ s) = L + t * 2 ^ s := by
  obtain ⟨a, rfl⟩ : ∃ a : Nat, L = (a : Int) := ⟨L.toNat, by omega⟩
  obtain ⟨u, rfl⟩ : ∃ u : Nat, t = (u : Int) := ⟨t.toNat, by omega⟩
  have ha : a < 2 ^ s := by exact_mod_cast hL.2
  have e : ((u : Int) * 2 ^ s) = ((2 ^ s * u : Nat) : Int) := by rw [Nat.mul_comm]; simp
  rw [e] at hb ⊢
  rw [bits_or_u64_nat a _ (by omega) (by omega), Nat.or_comm, ← Nat.two_pow_add_eq_or_of_lt ha]
  omega
theorem low_val (x : List Int) (h : ∀ i, i < 5 → 0 ≤ rd x i ∧ rd x i < 67108864) :
    (0 ≤ lowL x ∧ lowL x < 18446744073709551616) ∧ (0 ≤ lowH x ∧ lowH x < 18446744073709551616) ∧ lowL x + lowH x * 18446744073709551616 = val5 x % 340282366920938463463374607431768211456 := by
  have h0 := h 0 (by omega)
  have h1 := h 1 (by omega)
  have h2 := h 2 (by omega)
  have h3 := h 3 (by omega)
  have h4 := h 4 (by omega)
  unfold lowL lowH val5
  generalize rd x 0 = x0 at *
  generalize rd x 1 = x1 at *
  generalize rd x 2 = x2 at *
  generalize rd x 3 = x3 at *
  generalize rd x 4 = x4 at *
  clear h
  have p26 : (2 : Int) ^ 26 = 67108864 := by decide
  have p52 : (2 : Int) ^ 52 = 4503599627370496 := by decide
  have p14 : (2 : Int) ^ 14 = 16384 := by decide
  have p40 : (2 : Int) ^ 40 = 1099511627776 := by decide
  have e1 : bits .or .u64 x0 (u64 (x1 * 67108864)) = x0 + x1 * 67108864 := by
    rw [u64_in _ (by omega)]
    have := or_add2 x0 x1 26 (by rw [p26]; omega) (by omega) (by rw [p26]; omega) (by rw [p26]; omega)
    rw [p26] at this
    exact this
  have e2 : u64 (x2 * 4503599627370496) = x2 % 4096 * 4503599627370496 := by rw [u64_eq]; omega
  have e3 : bits .or .u64 (x0 + x1 * 67108864) (x2 % 4096 * 4503599627370496) = x0 + x1 * 67108864 + x2 % 4096 * 4503599627370496 := by
    have := or_add2 (x0 + x1 * 67108864) (x2 % 4096) 52 (by rw [p52]; omega) (by omega) (by rw [p52]; omega) (by rw [p52]; omega)
    rw [p52] at this
    exact this
  have f1 : bits .or .u64 (x2 / 4096) (u64 (x3 * 16384)) = x2 / 4096 + x3 * 16384 := by
    rw [u64_in _ (by omega)]
    have := or_add2 (x2 / 4096) x3 14 (by rw [p14]; omega) (by omega) (by rw [p14]; omega) (by rw [p14]; omega)
    rw [p14] at this
    exact this
  have f2 : u64 (x4 * 1099511627776) = x4 % 16777216 * 1099511627776 := by rw [u64_eq]; omega
  have f3 : bits .or .u64 (x2 / 4096 + x3 * 16384) (x4 % 16777216 * 1099511627776) = x2 / 4096 + x3 * 16384 + x4 % 16777216 * 1099511627776 := by
    have := or_add2 (x2 / 4096 + x3 * 16384) (x4 % 16777216) 40 (by rw [p40]; omega) (by omega) (by rw [p40]; omega) (by rw [p40]; omega)
    rw [p40] at this
    exact this
  rw [e1, e2, e3, f1, f2, f3]
  refine ⟨by omega, by omega, by omega⟩
/-- A number's first bytes. -/
def byteSum (y : Int) : Nat → Int
  | 0 => 0
  | n + 1 => byteSum y n + y / 2 ^ (8 * n) % 256 * 2 ^ (8 * n)
theorem byteSum_val (y : Int) (hy : 0 ≤ y) : ∀ n, byteSum y n = y % 2 ^ (8 * n)
  | 0 => by
    show (0 : Int) = y % 2 ^ 0
    rw [Int.pow_zero, Int.emod_one]
  | n + 1 => by
    unfold byteSum
    rw [byteSum_val y hy n]
    have e : (2 : Int) ^ (8 * (n + 1)) = 2 ^ (8 * n) * 256 := by rw [show 8 * (n + 1) = 8 * n + 8 by omega, Int.pow_add]; rfl
    rw [e]
    obtain ⟨m, rfl⟩ : ∃ m : Nat, y = (m : Int) := ⟨y.toNat, by omega⟩
    have hp : (2 : Int) ^ (8 * n) = ((2 ^ (8 * n) : Nat) : Int) := by simp
    rw [hp]
    generalize (2 : Nat) ^ (8 * n) = p
    have h1 := Nat.mod_mul (x := m) (a := p) (b := 256)
    have h2 : ((m % (p * 256) : Nat) : Int) = ((m % p + p * (m / p % 256) : Nat) : Int) := by rw [h1]
    rw [Int.natCast_add, Int.natCast_mul] at h2
    simp only [Int.natCast_emod, Int.natCast_ediv, Int.natCast_mul] at h2
    have h3 : ((256 : Nat) : Int) = 256 := rfl
    rw [h3] at h2
    rw [h2, Int.mul_comm (p : Int)]
/-- Both halves' first bytes. -/
def halfSum (l h : Int) : Nat → Int
  | 0 => 0
  | n + 1 => halfSum l h n + halfOf l h n / 2 ^ (8 * (n % 8)) % 256 * 2 ^ (8 * n)
theorem halfSum_low (l h : Int) : ∀ n, n ≤ 8 → halfSum l h n = byteSum l n
  | 0, _ => rfl
  | n + 1, hn => by
    unfold halfSum byteSum
    rw [halfSum_low l h n (by omega), halfOf, if_neg (by omega), show n % 8 = n by omega]
theorem halfSum_high (l h : Int) : ∀ m, m ≤ 8 → halfSum l h (8 + m) = byteSum l 8 + byteSum h m * 18446744073709551616
  | 0, _ => by rw [Nat.add_zero, halfSum_low l h 8 (by omega)]; simp [byteSum]
  | m + 1, hm => by
    rw [← Nat.add_assoc]
    unfold halfSum byteSum
    rw [halfSum_high l h m (by omega), halfOf, if_pos (by omega), show (8 + m) % 8 = m by omega, show 8 * (8 + m) = 8 * m + 64 by omega, Int.pow_add]
    have e : (2 : Int) ^ 64 = 18446744073709551616 := by decide
    rw [e, Int.add_mul]
    simp only [byteSum, Int.mul_assoc]
    omega
theorem halfSum_val (l h : Int) (hl : 0 ≤ l ∧ l < 18446744073709551616) (hh : 0 ≤ h ∧ h < 18446744073709551616) : halfSum l h 16 = l + h * 18446744073709551616 := by
  have e : (2 : Int) ^ (8 * 8) = 18446744073709551616 := by decide
  have := halfSum_high l h 8 (by omega)
  rw [byteSum_val l hl.1 8, byteSum_val h hh.1 8, e, Int.emod_eq_of_lt hl.1 hl.2, Int.emod_eq_of_lt hh.1 hh.2] at this
  exact this
theorem valB_set (xs : List Int) (m : Nat) (v : Int) : ∀ n, n ≤ m → valB (xs.set m v) n = valB xs n
  | 0, _ => rfl
  | n + 1, h => by
    unfold valB
    rw [valB_set xs m v n (by omega), rd_set', if_neg (by omega)]
theorem and255 (x : Int) (h0 : 0 ≤ x) (h1 : x < 18446744073709551616) : bits .and .u64 x 255 = x % 256 :=
  bits_mask .u64 64 (by decide) (fun n h0 h1 => by rw [IntKind.wrap_u64]; omega) 8 (by decide) x h0 (by simpa using h1)
theorem outS_val (l h : Int) (key : List Int) (hl : 0 ≤ l ∧ l < 18446744073709551616) (hh : 0 ≤ h ∧ h < 18446744073709551616) (rk : ∀ i, 0 ≤ rd key i ∧ rd key i < 256) : ∀ n, n ≤ 16 →
    (0 ≤ (outS l h key n).2 ∧ (outS l h key n).2 ≤ 1) ∧ (∀ i, 0 ≤ rd (outS l h key n).1 i ∧ rd (outS l h key n).1 i < 256) ∧
      valB (outS l h key n).1 n + (outS l h key n).2 * 2 ^ (8 * n) = halfSum l h n + valB (key.drop 16) n
  | 0, _ => by
    rw [outS_zero]
    exact ⟨by decide, fun i => by rw [rd_rep0]; omega, by simp [valB, halfSum]⟩
  | n + 1, hn => by
    obtain ⟨h1, h2, h3⟩ := outS_val l h key hl hh rk n (by omega)
    have hlen := outS_length l h key n
    rw [outS_succ]
    generalize outS l h key n = s at *
    have hy : 0 ≤ halfOf l h n / 2 ^ (8 * (n % 8)) ∧ halfOf l h n / 2 ^ (8 * (n % 8)) < 18446744073709551616 := by
      have hp : (0 : Int) < 2 ^ (8 * (n % 8)) := Int.pow_pos (by decide)
      have h0 : 0 ≤ halfOf l h n ∧ halfOf l h n < 18446744073709551616 := by unfold halfOf; split <;> assumption
      refine ⟨Int.ediv_nonneg h0.1 (by omega), ?_⟩
      have := Int.ediv_le_self (2 ^ (8 * (n % 8))) h0.1
      omega
    have hk := rk (16 + n)
    obtain ⟨y, hyy⟩ : ∃ y, y = halfOf l h n / 2 ^ (8 * (n % 8)) % 256 := ⟨_, rfl⟩
    have hyb : 0 ≤ y ∧ y < 256 := by rw [hyy]; exact ⟨Int.emod_nonneg _ (by decide), Int.emod_lt_of_pos _ (by decide)⟩
    have ht : u64 (u64 (bits .and .u64 (halfOf l h n / 2 ^ (8 * (n % 8))) 255 + u64 (rd key (16 + n))) + s.2) = y + rd key (16 + n) + s.2 := by
      rw [and255 _ hy.1 hy.2, ← hyy, u64_in (rd key (16 + n)) (by omega), u64_in (y + rd key (16 + n)) (by omega), u64_in _ (by omega)]
    have hs : ostep l h key s n = (s.1.set n ((y + rd key (16 + n) + s.2) % 256), (y + rd key (16 + n) + s.2) / 256) := by unfold ostep; rw [ht]
    rw [hs]
    refine ⟨by show 0 ≤ (y + rd key (16 + n) + s.2) / 256 ∧ (y + rd key (16 + n) + s.2) / 256 ≤ 1; omega, fun i => ?_, ?_⟩
    · show 0 ≤ rd (s.1.set n _) i ∧ rd (s.1.set n _) i < 256
      rw [rd_set']
      split
      · exact ⟨Int.emod_nonneg _ (by decide), Int.emod_lt_of_pos _ (by decide)⟩
      · exact h2 i
    · show valB (s.1.set n ((y + rd key (16 + n) + s.2) % 256)) (n + 1) + (y + rd key (16 + n) + s.2) / 256 * 2 ^ (8 * (n + 1)) = _
      have e : (2 : Int) ^ (8 * (n + 1)) = 2 ^ (8 * n) * 256 := by rw [show 8 * (n + 1) = 8 * n + 8 by omega, Int.pow_add]; rfl
      have ev : valB (s.1.set n ((y + rd key (16 + n) + s.2) % 256)) (n + 1) = valB s.1 n + (y + rd key (16 + n) + s.2) % 256 * 2 ^ (8 * n) := by
        show valB (s.1.set n ((y + rd key (16 + n) + s.2) % 256)) n + rd (s.1.set n ((y + rd key (16 + n) + s.2) % 256)) n * 2 ^ (8 * n) = _
        rw [valB_set _ _ _ n (Nat.le_refl _), rd_set', if_pos ⟨rfl, by omega⟩]
      have eh : halfSum l h (n + 1) = halfSum l h n + y * 2 ^ (8 * n) := by rw [hyy]; rfl
      have ek : valB (key.drop 16) (n + 1) = valB (key.drop 16) n + rd key (16 + n) * 2 ^ (8 * n) := by
        show valB (key.drop 16) n + rd (key.drop 16) n * 2 ^ (8 * n) = _
        rw [rd_drop]
      rw [e, ev, eh, ek]
      generalize (2 : Int) ^ (8 * n) = p at *
      have hd := Int.emod_add_mul_ediv (y + rd key (16 + n) + s.2) 256
      generalize (y + rd key (16 + n) + s.2) % 256 = q at *
      generalize (y + rd key (16 + n) + s.2) / 256 = r at *
      grind
theorem bits_and_u8_nat (a b : Nat) (ha : a < 256) (hb : b < 256) : bits .and .u8 (a : Int) (b : Int) = ((a &&& b : Nat) : Int) := by
  have hx : a &&& b < 2 ^ 8 := Nat.and_lt_two_pow _ (by omega)
  have h1 : (BitVec.ofInt 8 (a : Int)).toNat = a := by
    rw [BitVec.ofInt_natCast, BitVec.toNat_ofNat]; exact Nat.mod_eq_of_lt (by omega)
  have h2 : (BitVec.ofInt 8 (b : Int)).toNat = b := by
    rw [BitVec.ofInt_natCast, BitVec.toNat_ofNat]; exact Nat.mod_eq_of_lt (by omega)
  show IntKind.u8.wrap ((BitVec.ofInt 8 (a : Int) &&& BitVec.ofInt 8 (b : Int)).toNat : Int) = _
  rw [BitVec.toNat_and, h1, h2, IntKind.wrap_u8]
  omega
theorem and_u8_in (x : Int) (m : Nat) (hx : 0 ≤ x ∧ x < 256) (hm : m < 256) : 0 ≤ bits .and .u8 x (m : Int) ∧ bits .and .u8 x (m : Int) < 256 := by
  obtain ⟨a, rfl⟩ : ∃ a : Nat, x = (a : Int) := ⟨x.toNat, by omega⟩
  rw [bits_and_u8_nat a m (by omega) hm]
  have : a &&& m < 2 ^ 8 := Nat.and_lt_two_pow _ (by omega)
  omega
theorem set_in {xs : List Int} (h : ∀ i, 0 ≤ rd xs i ∧ rd xs i < 256) (i : Nat) (x : Int) (h0 : 0 ≤ x ∧ x < 256) (j : Nat) : 0 ≤ rd (xs.set i x) j ∧ rd (xs.set i x) j < 256 := by
  rw [rd_set']
  split
  · exact h0
  · exact h j
theorem clampA_in (s : List Int) (h : ∀ i, 0 ≤ rd s i ∧ rd s i < 256) : ∀ n, ∀ i, 0 ≤ rd (clampA s n) i ∧ rd (clampA s n) i < 256
  | 0 => h
  | n + 1 => by
    rw [clampA_succ]
    exact set_in (clampA_in s h n) _ _ (and_u8_in _ 15 (clampA_in s h n _) (by decide))
theorem clampB_in (s : List Int) (h : ∀ i, 0 ≤ rd s i ∧ rd s i < 256) : ∀ n, ∀ i, 0 ≤ rd (clampB s n) i ∧ rd (clampB s n) i < 256
  | 0 => h
  | n + 1 => by
    rw [clampB_succ]
    exact set_in (clampB_in s h n) _ _ (and_u8_in _ 252 (clampB_in s h n _) (by decide))
theorem rbytes_in (key : List Int) (hk : key.length = 32) (rk : ∀ i, 0 ≤ rd key i ∧ rd key i < 256) : ∀ i, 0 ≤ rd (rbytes key) i ∧ rd (rbytes key) i < 256 := by
  refine clampB_in _ (clampA_in _ (fun i => ?_) 4) 3
  have hl : (key.take 16).length = 16 := by rw [List.length_take]; omega
  rw [rd_app, hl]
  split
  · rename_i hi; rw [rd_take _ _ _ hi]; exact rk i
  · have : rd [0] (i - 16) = 0 := by
      unfold rd
      cases i - 16 <;> rfl
    rw [this]
    omega
theorem rbytes_16 (key : List Int) (hk : key.length = 32) : rd (rbytes key) 16 = 0 := by
  have hl : (key.take 16).length = 16 := by rw [List.length_take]; omega
  have ha : ∀ (s : List Int) (n : Nat), n ≤ 4 → rd (clampA s n) 16 = rd s 16 := fun s n => by
    induction n with
    | zero => intro _; rfl
    | succ n ih => intro hn; rw [clampA_succ, rd_set', if_neg (by omega), ih (by omega)]
  have hb : ∀ (s : List Int) (n : Nat), n ≤ 3 → rd (clampB s n) 16 = rd s 16 := fun s n => by
    induction n with
    | zero => intro _; rfl
    | succ n ih => intro hn; rw [clampB_succ, rd_set', if_neg (by omega), ih (by omega)]
  unfold rbytes
  rw [hb _ 3 (by omega), ha _ 4 (by omega), rd_app, hl, if_neg (by omega)]
  rfl
/-- The tag, as a number: the sum below the modulus, its lowest 128 bits, the key's second half. -/
theorem poly_num (key bs : List Int) (hk : key.length = 32) (rk : ∀ i, 0 ≤ rd key i ∧ rd key i < 256) (rb : ∀ i, 0 ≤ rd bs i ∧ rd bs i < 256) :
    (∀ i, 0 ≤ rd (polySum key bs) i ∧ rd (polySum key bs) i < 256) ∧
      valB (polySum key bs) 16 = (sumN (valB (rbytes key) 17) bs ((bs.length + 15) / 16) % 340282366920938463463374607431768211456 + valB (key.drop 16) 16) % 340282366920938463463374607431768211456 := by
  have hrb := rbytes_in key hk rk
  have hrv : valB (rbytes key) 17 < 680564733841876926926749214863536422912 := by
    have h1 := valB_in (rbytes key) hrb 16
    have e : (2 : Int) ^ (8 * 16) = 340282366920938463463374607431768211456 := by decide
    rw [e] at h1
    have e2 : valB (rbytes key) 17 = valB (rbytes key) 16 + rd (rbytes key) 16 * 2 ^ (8 * 16) := rfl
    rw [e2, rbytes_16 key hk]
    omega
  obtain ⟨hn, hv⟩ := sumTo_val (parts (rbytes key)) bs (partsTo_length _ _) (parts_low _ hrb hrv) rb ((bs.length + 15) / 16)
  rw [parts_val _ hrb] at hv
  have hn' : Near (sumOf (parts (rbytes key)) bs) := hn
  have hv' : val5 (sumOf (parts (rbytes key)) bs) % pP = sumN (valB (rbytes key) 17) bs ((bs.length + 15) / 16) := hv
  obtain ⟨hx, hxb⟩ := lowA_val _ hn'
  obtain ⟨hL, hH, hLH⟩ := low_val _ hxb
  obtain ⟨ho, hob, hov⟩ := outS_val _ _ key hL hH rk 16 (Nat.le_refl _)
  rw [halfSum_val _ _ hL hH, hLH, hx, hv'] at hov
  have e : (2 : Int) ^ (8 * 16) = 340282366920938463463374607431768211456 := by decide
  rw [e] at hov
  refine ⟨hob, ?_⟩
  have hvb := valB_in _ hob 16
  rw [e] at hvb
  show valB (outS _ _ key 16).1 16 = _
  generalize valB (outS _ _ key 16).1 16 = W at *
  generalize (outS _ _ key 16).2 = O at *
  generalize sumN (valB (rbytes key) 17) bs ((bs.length + 15) / 16) % 340282366920938463463374607431768211456 = A at *
  generalize valB (key.drop 16) 16 = K at *
  rw [← hov, Int.add_mul_emod_self_right]
  exact (Int.emod_eq_of_lt hvb.1 hvb.2).symm
end Go.Proofs.YtlikinglgegclaaDoor
/- SameBytes, Bytes: lists of bytes held against each other, copied. -/
namespace Go.Proofs.YtlikinglgegclaaDoor
open Go.RowKit Go.Cour
theorem ext_rd {xs ys : List Int} (hl : xs.length = ys.length) (h : ∀ i, i < xs.length → rd xs i = rd ys i) : xs = ys := by
  apply List.ext_getElem hl
  intro i h1 h2
  have := h i h1
  simpa [rd, h1, h2] using this
set_option maxHeartbeats 2000000 in
set_option maxRecDepth 100000 in
theorem same_calls (xs ys : List Int) (A B : Option Addr) (c d m n : Nat) (w : World) (hm : m = xs.length) (hn : n = ys.length) (hx : Rd w A .u8 xs) (hy : Rd w B .u8 ys) (hl : xs.length ≤ 1000000000) (hl' : ys.length ≤ 1000000000) :
    Calls Tryd.prog 16 #[.slice A m c, .slice B n d] w fun e w' => e = .returned (.bool (decide (xs = ys))) ∧ ∃ q, w' = w.drewN q := by
  subst hm hn
  by_cases he : xs.length = ys.length
  · have HE := hid he
    have hb : ((xs.length : Int) == (ys.length : Int)) = true := by rw [beq_iff_eq]; omega
    have hb' : (xs.length == ys.length) = true := by rw [beq_iff_eq]; omega
    obtain ⟨n, hnx⟩ : ∃ n, Hd (n = xs.length) := ⟨_, hid rfl⟩
    rw [← show n = ys.length by rw [hnx.out]; exact he] at hl' ⊢
    rw [← hnx.out] at hl ⊢
    have HX := hid hx
    have HY := hid hy
    clear hx hy he hb hb'
    go_enter Tryd.func16, Tryd.ntmps16
    go_wp2
    go_loopg [5] (n + 1) (fun kq v5 wr => ∃ i : Nat, i ≤ n ∧ v5 = .int .i64 i ∧ Hd (kq + i = n + 1) ∧ Hd (∀ j, j < i → rd xs j = rd ys j) ∧ Hd (∃ q, wr = w.drewN q))
    case atStart => exact ⟨0, by omega, rfl, hid (by omega), hid (by intro j hj; omega), hid ⟨0, rfl⟩⟩
    case round =>
      obtain ⟨i, hi, rfl, hq, hs, hw⟩ := hrel
      obtain ⟨q, rfl⟩ := hw.out
      by_cases hlt : i < n
      · obtain ⟨g, o, rfl⟩ := HX.out.at (by rw [← hnx.out]; omega)
        obtain ⟨g', o', rfl⟩ := HY.out.at (by rw [← HE.out, ← hnx.out]; omega)
        have cx := HX.out.cellAt i (by rw [← hnx.out]; omega)
        have cy := HY.out.cellAt i (by rw [← HE.out, ← hnx.out]; omega)
        have a1 : (i : Int) < n := by omega
        obtain ⟨x, hx⟩ : ∃ x, Hd (x = rd xs i) := ⟨_, hid rfl⟩
        obtain ⟨y, hy⟩ : ∃ y, Hd (y = rd ys i) := ⟨_, hid rfl⟩
        rw [← hx.out] at cx
        rw [← hy.out] at cy
        by_cases hxy : x = y
        · have hb : (x == y) = true := by rw [beq_iff_eq]; exact hxy
          have HXY := hid hxy
          clear hxy
          go_wp2
          go_quiet (fail)
          go_wp2
          go_roundg (gk - 1)
          case measure => have := hq.out; omega
          case rel =>
            refine ⟨i + 1, by omega, by go_num, hid (by have := hq.out; omega), hid ?_, hid ⟨_, rfl⟩⟩
            intro j hj
            by_cases hji : j = i
            · subst hji; rw [← hx.out, ← hy.out]; exact HXY.out
            · exact hs.out j (by omega)
        · have hb : (x == y) = false := by rw [beq_eq_false_iff_ne]; exact hxy
          have HXY := hid hxy
          clear hxy
          go_wp2
          go_quiet (fail)
          go_wp2
          go_ret
          have hd : decide (xs = ys) = false := decide_eq_false (fun h => HXY.out (by rw [hx.out, hy.out, h]))
          rw [hd]
          exact ⟨rfl, _, rfl⟩
      · obtain rfl : i = n := by omega
        go_wp2
        go_ret
        have hd : decide (xs = ys) = true := decide_eq_true (ext_rd HE.out (fun j hj => hs.out j (by rw [hnx.out]; exact hj)))
        rw [hd]
        exact ⟨rfl, _, rfl⟩
  · have hb : ((xs.length : Int) == (ys.length : Int)) = false := by rw [beq_eq_false_iff_ne]; omega
    have hb' : (xs.length == ys.length) = false := by rw [beq_eq_false_iff_ne]; omega
    have HE := hid he
    clear he
    go_enter Tryd.func16, Tryd.ntmps16
    go_wp2
    go_ret
    have hd : decide (xs = ys) = false := decide_eq_false (fun h => HE.out (by rw [h]))
    rw [hd]
    exact ⟨rfl, 0, rfl⟩
end Go.Proofs.YtlikinglgegclaaDoor
/- The reference's tag. -/
namespace Go.Proofs.YtlikinglgegclaaDoor
open Go.RowKit Go.Cour
attribute [local go_sem] max2_int min2_int
theorem bits_and_u32_nat (a b : Nat) (ha : a < 4294967296) (hb : b < 4294967296) : bits .and .u32 (a : Int) (b : Int) = ((a &&& b : Nat) : Int) := by
  have hx : a &&& b < 2 ^ 32 := Nat.and_lt_two_pow _ (by omega)
  have h1 : (BitVec.ofInt 32 (a : Int)).toNat = a := by
    rw [BitVec.ofInt_natCast, BitVec.toNat_ofNat]; exact Nat.mod_eq_of_lt (by omega)
  have h2 : (BitVec.ofInt 32 (b : Int)).toNat = b := by
    rw [BitVec.ofInt_natCast, BitVec.toNat_ofNat]; exact Nat.mod_eq_of_lt (by omega)
  show IntKind.u32.wrap ((BitVec.ofInt 32 (a : Int) &&& BitVec.ofInt 32 (b : Int)).toNat : Int) = _
  rw [BitVec.toNat_and, h1, h2, IntKind.wrap_u32]
  omega
theorem and_u32_u8 (x : Int) (m : Nat) (hx : 0 ≤ x ∧ x < 256) (hm : m < 256) : bits .and .u32 x (m : Int) = bits .and .u8 x (m : Int) := by
  obtain ⟨a, rfl⟩ : ∃ a : Nat, x = (a : Int) := ⟨x.toNat, by omega⟩
  rw [bits_and_u8_nat a m (by omega) hm, bits_and_u32_nat a m (by omega) (by omega)]
/-- A list put into seventeen zeros. -/
def putTo (f : Nat → Int) (n : Nat) : List Int := (List.range n).foldl (fun s i => s.set i (f i)) (List.replicate 17 0)
theorem putTo_succ (f : Nat → Int) (n : Nat) : putTo f (n + 1) = (putTo f n).set n (f n) := foldl_succ _ _ _
theorem putTo_length (f : Nat → Int) : ∀ n, (putTo f n).length = 17
  | 0 => by simp [putTo]
  | n + 1 => by rw [putTo_succ, List.length_set]; exact putTo_length f n
theorem rd_putTo (f : Nat → Int) (i : Nat) : ∀ n, n ≤ 17 → rd (putTo f n) i = if i < n then f i else 0
  | 0, _ => by
    rw [if_neg (by omega)]
    exact rd_rep0 _ _
  | n + 1, hn => by
    rw [putTo_succ, rd_set', putTo_length, rd_putTo f i n (by omega)]
    by_cases h1 : n = i
    · subst h1
      rw [if_pos ⟨rfl, by omega⟩, if_pos (by omega)]
    · rw [if_neg (by omega)]
      by_cases h2 : i < n
      · rw [if_pos h2, if_pos (by omega)]
      · rw [if_neg h2, if_neg (by omega)]
theorem putTo_key (key : List Int) (hk : key.length = 32) : putTo (rd key) 16 = key.take 16 ++ [0] := by
  have hl : (key.take 16).length = 16 := by rw [List.length_take]; omega
  refine ext_rd (by rw [putTo_length, List.length_append, hl]; rfl) fun i hi => ?_
  rw [putTo_length] at hi
  rw [rd_putTo _ _ _ (by omega), rd_app, hl]
  by_cases h : i < 16
  · rw [if_pos h, if_pos h, rd_take _ _ _ h]
  · rw [if_neg h, if_neg h, show i - 16 = 0 by omega]
    rfl
theorem putTo_block (ys : List Int) : (putTo (rd ys) (min ys.length 16)).set (min ys.length 16) 1 = blockOf ys := by
  refine ext_rd (by rw [List.length_set, putTo_length, blockOf_length]) fun i hi => ?_
  rw [List.length_set, putTo_length] at hi
  rw [rd_set', putTo_length, rd_putTo _ _ _ (by omega), rd_blockOf ys i hi]
  by_cases h : i = min ys.length 16
  · rw [if_pos ⟨h.symm, hi⟩, if_pos h]
  · rw [if_neg (by omega), if_neg h]
/-- What is summed behind so many blocks. -/
def hTo (r bs : List Int) : Nat → List Int
  | 0 => List.replicate 17 0
  | n + 1 => timesT (plus1 (hTo r bs n) (blockOf (bs.drop (16 * n)))) r
theorem endT_length (s : List Int × Int) : (endT s).length = s.1.length := by simp [endT]
theorem midT_length (s : List Int × Int) : (midT s).1.length = s.1.length := by simp [midT]
theorem timesT_length (h r : List Int) : (timesT h r).length = 17 := by rw [timesT, endT_length, carT_length, midT_length, carT_length, xTo_length]
theorem plus1_length (h c : List Int) : (plus1 h c).length = h.length := plusS_length h c 17
theorem hTo_length (r bs : List Int) : ∀ n, (hTo r bs n).length = 17
  | 0 => by simp [hTo]
  | n + 1 => timesT_length _ _
def minusP : List Int := [5, 0, 0, 0, 0, 0, 0, 0, 0, 0, 0, 0, 0, 0, 0, 0, 252]
def minusA : List Int := [5, 0, 0, 0, 0, 0, 0, 0, 0, 0, 0, 0, 0, 0, 0, 0, 0]
theorem minusA_set : minusA.set 16 252 = minusP := rfl
def finT (h : List Int) : List Int := if rd (plus1 h minusP) 16 / 128 = 0 then plus1 h minusP else h
def outT (h : List Int) (n : Nat) : List Int := (List.range n).foldl (fun s i => s.set i (rd h i % 256)) (List.replicate 16 0)
theorem outT_succ (h : List Int) (n : Nat) : outT h (n + 1) = (outT h n).set n (rd h n % 256) := foldl_succ _ _ _
theorem outT_length (h : List Int) : ∀ n, (outT h n).length = 16
  | 0 => by simp [outT]
  | n + 1 => by rw [outT_succ, List.length_set]; exact outT_length h n
def tagT (key bs : List Int) : List Int := outT (plus1 (finT (hTo (rbytes key) bs ((bs.length + 15) / 16))) (putTo (fun j => rd key (16 + j)) 16)) 16
theorem buildZeroT : Tryd.prog.built 156 [] = some (ints .u32 (List.replicate 17 0)).toArray := by kernel_rfl
theorem buildMinT : Tryd.prog.built 156 [(0, .int .u32 5)] = some (ints .u32 minusA).toArray := by kernel_rfl
/-- What the blocks of a call hold. -/
structure GB (w wr : World) (g2 g4 g5 g6 g7 : Nat) (key r h c : List Int) : Prop where
  hl : h.length = 17
  k : Blk wr g2 27 (ints .u8 key)
  o : Blk wr g4 125 (ints .u8 (List.replicate 16 0))
  r : Blk wr g5 156 (ints .u32 r)
  h : Blk wr g6 156 (ints .u32 h)
  c : Blk wr g7 156 (ints .u32 c)
  bel : Below w.heap.size w wr
structure GZ (w : World) (g2 g4 g5 g6 g7 : Nat) : Prop where
  a : w.heap.size ≤ g2
  b : g2 < g4
  c : g4 < g5
  d : g5 < g6
  e : g6 < g7
theorem GB.setR {w wr : World} {g2 g4 g5 g6 g7 : Nat} {key r h c : List Int} (H : GB w wr g2 g4 g5 g6 g7 key r h c) (z : Hd (GZ w g2 g4 g5 g6 g7)) (i : Nat) (x : Int) : GB w (wr.setCell ⟨g5, i, none⟩ (.int .u32 x)) g2 g4 g5 g6 g7 key (r.set i x) h c := by
  obtain ⟨a, b, c', d, e⟩ := z.out
  exact ⟨H.hl, H.k.setOther (by simp; omega) _, H.o.setOther (by simp; omega) _, H.r.setI i x, H.h.setOther (by simp; omega) _, H.c.setOther (by simp; omega) _, H.bel.setCell (by simp; omega) _⟩
theorem GB.setC {w wr : World} {g2 g4 g5 g6 g7 : Nat} {key r h c : List Int} (H : GB w wr g2 g4 g5 g6 g7 key r h c) (z : Hd (GZ w g2 g4 g5 g6 g7)) (i : Nat) (x : Int) : GB w (wr.setCell ⟨g7, i, none⟩ (.int .u32 x)) g2 g4 g5 g6 g7 key r h (c.set i x) := by
  obtain ⟨a, b, c', d, e⟩ := z.out
  exact ⟨H.hl, H.k.setOther (by simp; omega) _, H.o.setOther (by simp; omega) _, H.r.setOther (by simp; omega) _, H.h.setOther (by simp; omega) _, H.c.setI i x, H.bel.setCell (by simp; omega) _⟩
theorem GB.rowC {w wr : World} {g2 g4 g5 g6 g7 : Nat} {key r h c : List Int} (H : GB w wr g2 g4 g5 g6 g7 key r h c) (z : Hd (GZ w g2 g4 g5 g6 g7)) (c2 : List Int) : GB w (wr.setRow g7 (ints .u32 c2).toArray) g2 g4 g5 g6 g7 key r h c2 := by
  obtain ⟨a, b, c', d, e⟩ := z.out
  exact ⟨H.hl, H.k.setRowOther (by omega) _, H.o.setRowOther (by omega) _, H.r.setRowOther (by omega) _, H.h.setRowOther (by omega) _, H.c.setRow _, below_setRow H.bel (by omega) _⟩
theorem GB.rowH {w wr : World} {g2 g4 g5 g6 g7 : Nat} {key r h c : List Int} (H : GB w wr g2 g4 g5 g6 g7 key r h c) (z : Hd (GZ w g2 g4 g5 g6 g7)) (h2 : List Int) (hl2 : h2.length = 17) : GB w (wr.setRow g6 (ints .u32 h2).toArray) g2 g4 g5 g6 g7 key r h2 c := by
  obtain ⟨a, b, c', d, e⟩ := z.out
  exact ⟨hl2, H.k.setRowOther (by omega) _, H.o.setRowOther (by omega) _, H.r.setRowOther (by omega) _, H.h.setRow _, H.c.setRowOther (by omega) _, below_setRow H.bel (by omega) _⟩
theorem GB.other {w wr : World} {g2 g4 g5 g6 g7 g : Nat} {key r h c : List Int} (H : GB w wr g2 g4 g5 g6 g7 key r h c) (z : Hd (GZ w g2 g4 g5 g6 g7)) (hg : g7 < g) (cs : Array Value) : GB w (wr.setRow g cs) g2 g4 g5 g6 g7 key r h c := by
  obtain ⟨a, b, c', d, e⟩ := z.out
  exact ⟨H.hl, H.k.setRowOther (by omega) _, H.o.setRowOther (by omega) _, H.r.setRowOther (by omega) _, H.h.setRowOther (by omega) _, H.c.setRowOther (by omega) _, below_setRow H.bel (by omega) _⟩
theorem GB.otherC {w wr : World} {g2 g4 g5 g6 g7 g : Nat} {key r h c : List Int} (H : GB w wr g2 g4 g5 g6 g7 key r h c) (z : Hd (GZ w g2 g4 g5 g6 g7)) (hg : g7 < g) (i : Nat) (v : Value) : GB w (wr.setCell ⟨g, i, none⟩ v) g2 g4 g5 g6 g7 key r h c := by
  obtain ⟨a, b, c', d, e⟩ := z.out
  exact ⟨H.hl, H.k.setOther (by simp; omega) _, H.o.setOther (by simp; omega) _, H.r.setOther (by simp; omega) _, H.h.setOther (by simp; omega) _, H.c.setOther (by simp; omega) _, H.bel.setCell (by simp; omega) _⟩
theorem GB.below {w wr wx : World} {g2 g4 g5 g6 g7 : Nat} {key r h c : List Int} (H : GB w wr g2 g4 g5 g6 g7 key r h c) (hb : Below wr.heap.size wr wx) : GB w wx g2 g4 g5 g6 g7 key r h c :=
  ⟨H.hl, H.k.belowAll hb, H.o.belowAll hb, H.r.belowAll hb, H.h.belowAll hb, H.c.belowAll hb, below_then H.bel H.bel.size hb⟩
theorem GB.drew {w wr : World} {g2 g4 g5 g6 g7 : Nat} {key r h c : List Int} (H : GB w wr g2 g4 g5 g6 g7 key r h c) : GB w wr.drew g2 g4 g5 g6 g7 key r h c :=
  ⟨H.hl, H.k.drew, H.o.drew, H.r.drew, H.h.drew, H.c.drew, below_drewN H.bel 1⟩
set_option maxHeartbeats 16000000 in
set_option maxRecDepth 100000 in
theorem tag1_calls (key bs : List Int) (A : Option Addr) (m cap : Nat) (w : World) (hk : key.length = 32) (rk : bytesOk key) (hm : m = bs.length) (hr : Rd w A .u8 bs) (rb : bytesOk bs) (hl : bs.length ≤ 1000000) :
    Calls Tryd.prog 90 #[.agg (ints .u8 key).toArray, .slice A m cap] w fun e w' => e = .returned (.agg (ints .u8 (tagT key bs)).toArray) ∧ Below w.heap.size w w' := by
  have HK := hid hk
  have HR := hid hr
  have HM := hid hm
  have HTAG : Hd (outT (plus1 (finT (hTo (clampB (clampA (putTo (rd key) 16) 4) 3) bs ((m + 15) / 16))) (putTo (fun j => rd key (16 + j)) 16)) 16 = tagT key bs) := hid (by rw [putTo_key key hk, hm]; rfl)
  have HCA : Hd (bytesOk (putTo (rd key) 16)) := hid (by
    intro i
    rw [rd_putTo _ _ _ (by omega)]
    split
    · exact rk i
    · omega)
  have hmb : m ≤ 1000000 := by omega
  clear hk hr hm hl
  go_enter Tryd.func90, Tryd.ntmps90
  go_wp2_with (first
    | (refine box_blk rfl 27 _ rfl _ rfl (ints .u8 key) rfl ?_; intro g2 w1 hg2 hb2 hB1 hs1)
    | (refine alloc_blk rfl 125 rfl _ rfl (ints .u8 (List.replicate 16 0)) zeroT16 ?_; intro g4 w2 hg4 hb4 hB2 hs2)
    | (have hx := hb6; refine alloc_blk rfl 156 rfl _ rfl (ints .u32 (List.replicate 17 0)) zeroA17w ?_; clear hx; intro g7 w5 hg7 hb7 hB5 hs5)
    | (have hx := hb5; refine alloc_blk rfl 156 rfl _ rfl (ints .u32 (List.replicate 17 0)) zeroA17w ?_; clear hx; intro g6 w4 hg6 hb6 hB4 hs4)
    | (refine alloc_blk rfl 156 rfl _ rfl (ints .u32 (List.replicate 17 0)) zeroA17w ?_; intro g5 w3 hg5 hb5 hB3 hs3)
    | fail)
  have hz : Hd (GZ w g2 g4 g5 g6 g7) := hid ⟨by omega, by omega, by omega, by omega, by omega⟩
  have hX : GB w w5 g2 g4 g5 g6 g7 key (putTo (rd key) 0) (List.replicate 17 0) (List.replicate 17 0) :=
    ⟨by simp, (((hb2.belowAll hB2).belowAll hB3).belowAll hB4).belowAll hB5, ((hb4.belowAll hB3).belowAll hB4).belowAll hB5, (hb5.belowAll hB4).belowAll hB5, hb6.belowAll hB5, hb7,
      below_then (below_then (below_then (below_then hB1 hB1.size hB2) (by omega) hB3) (by omega) hB4) (by omega) hB5⟩
  clear hg2 hb2 hB1 hs1 hg4 hb4 hB2 hs2 hg5 hb5 hB3 hs3 hg6 hb6 hB4 hs4 hg7 hb7 hB5 hs5
  go_loopg [8] 17 (fun kq v8 wr => ∃ i : Nat, i ≤ 16 ∧ v8 = .int .i64 i ∧ Hd (kq + i = 17) ∧ GB w wr g2 g4 g5 g6 g7 key (putTo (rd key) i) (List.replicate 17 0) (List.replicate 17 0))
  case atStart => exact ⟨0, by omega, rfl, hid (by omega), hX⟩
  case round =>
    clear hX
    obtain ⟨i, hi, rfl, hq, hX⟩ := hrel
    by_cases hlt : i < 16
    · have cr := hX.r.cellI i (by rw [putTo_length]; omega)
      have fr := hX.r.frozen i
      have ck := hX.k.cellI i (by have := HK.out; omega)
      have a1 : (i : Int) < 17 := by omega
      have a2 : (i : Int) < 32 := by omega
      have kb := rk i
      have hE : Hd (putTo (rd key) (i + 1) = (putTo (rd key) i).set i (rd key i)) := hid (putTo_succ _ _)
      generalize rd key i = K at ck kb hE
      go_wp2_with fail
      go_roundg (gk - 1)
      case measure => have := hq.out; omega
      case rel => exact ⟨i + 1, by omega, by go_num, hid (by have := hq.out; omega), by rw [hE.out]; exact hX.setR hz i K⟩
    · obtain rfl : i = 16 := by omega
      clear hq hi hlt
      have hRl : Hd ((putTo (rd key) 16).length = 17) := hid (putTo_length _ _)
      generalize putTo (rd key) 16 = R0 at hX HTAG HCA hRl
      go_wp2_with fail
      obtain ⟨wo, rfl⟩ : ∃ wo : World, wo = wr := ⟨_, rfl⟩
      go_loopg [9] 5 (fun kq v9 wr => ∃ i : Nat, i ≤ 4 ∧ v9 = .int .i64 (4 * (i : Int) + 3) ∧ Hd (kq + i = 5) ∧ GB w wr g2 g4 g5 g6 g7 key (clampA R0 i) (List.replicate 17 0) (List.replicate 17 0))
      case atStart => exact ⟨0, by omega, by go_num, hid (by omega), hX⟩
      case round =>
        clear hX
        obtain ⟨i, hi, rfl, hq, hX⟩ := hrel
        have hcl : Hd ((clampA R0 i).length = 17) := hid (by rw [clampA_length]; exact hRl.out)
        by_cases hlt : i < 4
        · obtain ⟨p, hp, hp17⟩ : ∃ p : Nat, Hd (p = 4 * i + 3) ∧ p < 17 := ⟨_, hid rfl, by omega⟩
          have e1 : 4 * (i : Int) + 3 = (p : Int) := by have := hp.out; omega
          have a0 : 4 * (i : Int) + 3 < 16 := by omega
          rw [e1] at a0 ⊢
          have cr := hX.r.cellI p (by have := hcl.out; omega)
          have fr := hX.r.frozen p
          have kb := clampA_in R0 HCA.out i p
          have hE : Hd (clampA R0 (i + 1) = (clampA R0 i).set p (bits .and .u8 (rd (clampA R0 i) p) 15)) := hid (by rw [clampA_succ, hp.out])
          have a1 : (p : Int) < 17 := by omega
          have hand := hid (and_u32_u8 (rd (clampA R0 i) p) 15 kb (by decide))
          generalize rd (clampA R0 i) p = K at cr kb hE hand
          go_wp2_with fail
          go_roundg (gk - 1)
          case measure => have := hq.out; omega
          case rel =>
            refine ⟨i + 1, by omega, by have := hp.out; go_num, hid (by have := hq.out; omega), ?_⟩
            have h2 := hX.setR hz p (bits .and .u32 K 15)
            rw [show (bits .and .u32 K 15) = bits .and .u8 K 15 from hand.out, ← hE.out] at h2
            rw [show (bits .and .u32 K 15) = bits .and .u8 K 15 from hand.out]
            exact h2
        · obtain rfl : i = 4 := by omega
          clear hq hi hlt
          have HCB : Hd (bytesOk (clampA R0 4)) := hid (clampA_in R0 HCA.out 4)
          generalize clampA R0 4 = R1 at hX HTAG HCB hcl
          have a0 : ¬ (4 * ((4 : Nat) : Int) + 3 < 16) := by omega
          go_wp2_with fail
          obtain ⟨wo1, rfl⟩ : ∃ wo : World, wo = wr := ⟨_, rfl⟩
          go_loopg [10] 4 (fun kq v10 wr => ∃ i : Nat, i ≤ 3 ∧ v10 = .int .i64 (4 * (i : Int) + 4) ∧ Hd (kq + i = 4) ∧ GB w wr g2 g4 g5 g6 g7 key (clampB R1 i) (List.replicate 17 0) (List.replicate 17 0))
          case atStart => exact ⟨0, by omega, by go_num, hid (by omega), hX⟩
          case round =>
            clear hX
            obtain ⟨i, hi, rfl, hq, hX⟩ := hrel
            have hcm : Hd ((clampB R1 i).length = 17) := hid (by rw [clampB_length]; exact hcl.out)
            by_cases hlt : i < 3
            · obtain ⟨p, hp, hp17⟩ : ∃ p : Nat, Hd (p = 4 * i + 4) ∧ p < 17 := ⟨_, hid rfl, by omega⟩
              have e1 : 4 * (i : Int) + 4 = (p : Int) := by have := hp.out; omega
              have a0 : 4 * (i : Int) + 4 < 16 := by omega
              rw [e1] at a0 ⊢
              have cr := hX.r.cellI p (by have := hcm.out; omega)
              have fr := hX.r.frozen p
              have kb := clampB_in R1 HCB.out i p
              have hE : Hd (clampB R1 (i + 1) = (clampB R1 i).set p (bits .and .u8 (rd (clampB R1 i) p) 252)) := hid (by rw [clampB_succ, hp.out])
              have a1 : (p : Int) < 17 := by omega
              have hand := hid (and_u32_u8 (rd (clampB R1 i) p) 252 kb (by decide))
              generalize rd (clampB R1 i) p = K at cr kb hE hand
              go_wp2_with fail
              go_roundg (gk - 1)
              case measure => have := hq.out; omega
              case rel =>
                refine ⟨i + 1, by omega, by have := hp.out; go_num, hid (by have := hq.out; omega), ?_⟩
                have h2 := hX.setR hz p (bits .and .u32 K 252)
                rw [show (bits .and .u32 K 252) = bits .and .u8 K 252 from hand.out, ← hE.out] at h2
                rw [show (bits .and .u32 K 252) = bits .and .u8 K 252 from hand.out]
                exact h2
            · obtain rfl : i = 3 := by omega
              clear hq hi hlt
              generalize clampB R1 3 = r at hX HTAG hcm
              have a0 : ¬ (4 * ((3 : Nat) : Int) + 4 < 16) := by omega
              go_wp2_with fail
              obtain ⟨wo2, rfl⟩ : ∃ wo : World, wo = wr := ⟨_, rfl⟩
              go_loopg [11, 12, 13] (m + 1) (fun kq v11 v12 v13 wr => ∃ n : Nat, n ≤ (m + 15) / 16 ∧ v11 = .int .i64 (16 * (n : Int)) ∧ Hd (kq + n = m + 1) ∧ ∃ c : List Int, Hd (c.length = 17) ∧ GB w wr g2 g4 g5 g6 g7 key r (hTo r bs n) c)
              case atStart => exact ⟨0, by omega, by go_num, hid (by omega), _, hid (by simp), hX⟩
              case round =>
                clear hX
                obtain ⟨n, hn, rfl, hq, c, hcl2, hX⟩ := hrel
                by_cases hlt : 16 * n < m
                · have a0 : 16 * (n : Int) < m := by omega
                  obtain ⟨k, hk⟩ : ∃ k : Nat, Hd (k = min (m - 16 * n) 16) := ⟨_, hid rfl⟩
                  have hkb : Hd (1 ≤ k ∧ k ≤ 16 ∧ 16 * n + k ≤ m) := hid (by have := hk.out; omega)
                  have hmin : (if (m : Int) - 16 * (n : Int) < 16 then (m : Int) - 16 * (n : Int) else 16) = (k : Int) := by have := hk.out; split <;> omega
                  have a1 : IntKind.i64.wrap ((m : Int) - 16 * (n : Int)) = (m : Int) - 16 * (n : Int) := IntWalk.i64_in _ (by omega)
                  obtain ⟨ys, hys⟩ : ∃ ys, Hd (ys = bs.drop (16 * n)) := ⟨_, hid rfl⟩
                  have hyl : Hd (k = min ys.length 16) := hid (by rw [hk.out, hys.out, List.length_drop, HM.out])
                  have hBO : Hd ((putTo (rd ys) k).set k 1 = blockOf ys) := hid (by rw [hyl.out]; exact putTo_block ys)
                  have hHN : Hd (timesT (plus1 (hTo r bs n) (blockOf ys)) r = hTo r bs (n + 1)) := hid (by rw [hys.out]; rfl)
                  have hhl := hid hX.hl
                  generalize hTo r bs n = h at hX hHN hhl
                  go_wp2_with (first
                    | (refine build_to rfl 156 _ rfl (ints .u32 (List.replicate 17 0)).toArray (by kernel_rfl) ?_)
                    | (refine store_blk rfl 156 _ _ rfl g7 (ints .u32 (List.replicate 17 0)) rfl rfl 156 _ hX.c 17 info88 (by simp) (by simpa using hcl2.out) (ints_one _ _) ?_)
                    | fail)
                  replace hX := hX.rowC hz (putTo (rd ys) 0)
                  obtain ⟨wo3, rfl⟩ : ∃ wo : World, wo = wr := ⟨_, rfl⟩
                  change GB w (wo3.setRow g7 (ints .u32 (List.replicate 17 0)).toArray) g2 g4 g5 g6 g7 key r h (putTo (rd ys) 0) at hX
                  change Code.wp _ _ _ _ (wo3.setRow g7 (ints .u32 (List.replicate 17 0)).toArray)
                  generalize wo3.setRow g7 (ints .u32 (List.replicate 17 0)).toArray = wn at hX ⊢
                  clear hmin a1
                  have hd0 : decide (16 * (n : Int) < m) = true := by simp; omega
                  obtain ⟨gk1, hgk⟩ : ∃ g : Nat, Hd (g = gk) := ⟨gk, hid rfl⟩
                  have hq1 : Hd (gk1 + n = m + 1) := hid (by rw [hgk.out]; exact hq.out)
                  go_loopg [13] (k + 1) (fun kq v13 wr => ∃ j : Nat, j ≤ k ∧ v13 = .int .i64 j ∧ Hd (kq + j = k + 1) ∧ GB w wr g2 g4 g5 g6 g7 key r h (putTo (rd ys) j))
                  case atStart => exact ⟨0, by omega, rfl, hid (by omega), hX⟩
                  case round =>
                    clear hX
                    obtain ⟨j, hj, rfl, hqj, hX⟩ := hrel
                    have hcl3 : Hd ((putTo (rd ys) j).length = 17) := hid (putTo_length _ _)
                    by_cases hjlt : j < k
                    · obtain ⟨g, o, rfl⟩ := HR.out.at (by have := hkb.out; rw [← HM.out]; omega)
                      have a1 : (j : Int) < k := by omega
                      have a2 : (j : Int) < 17 := by have := hkb.out; omega
                      obtain ⟨q, hqq⟩ : ∃ q : Nat, Hd (q = 16 * n + j) := ⟨_, hid rfl⟩
                      have a3 : 16 * (n : Int) + j = (q : Int) := by have := hqq.out; omega
                      have a4 : (q : Int) < m := by have := hqq.out; have := hkb.out; omega
                      have a5 : IntKind.i64.wrap (q : Int) = (q : Int) := IntWalk.i64_in _ (by omega)
                      have cb := (HR.out.below hX.bel).cellAt q (by rw [← HM.out]; omega)
                      have cr := hX.c.cellI j (by have := hcl3.out; omega)
                      have fr := hX.c.frozen j
                      have kb := rb q
                      have hE : Hd (putTo (rd ys) (j + 1) = (putTo (rd ys) j).set j (rd bs q)) := hid (by rw [putTo_succ, hys.out, rd_drop, hqq.out])
                      generalize rd bs q = K at cb kb hE
                      go_wp2_with fail
                      go_roundg (gk - 1)
                      case measure => have := hqj.out; omega
                      case rel => exact ⟨j + 1, by omega, by go_num, hid (by have := hqj.out; omega), by rw [hE.out]; exact hX.setC hz j K⟩
                    · obtain rfl : j = k := by omega
                      clear hqj hj hjlt
                      have a1 : ¬ ((j : Int) < j) := by omega
                      have a2 : (j : Int) < 17 := by have := hkb.out; omega
                      have cr := hX.c.cellI j (by have := hcl3.out; have := hkb.out; omega)
                      have fr := hX.c.frozen j
                      go_wp2_with fail
                      replace hX := hX.setC hz j 1
                      rw [hBO.out] at hX
                      have hbl : Hd ((blockOf ys).length = 17) := hid (blockOf_length ys)
                      generalize blockOf ys = c2 at hX hHN hbl
                      have hPL : Hd ((plus1 h c2).length = 17) := hid (by rw [plus1_length]; exact hhl.out)
                      have hTL : Hd ((timesT (plus1 h c2) r).length = 17) := hid (timesT_length _ _)
                      refine wp_region_factsU (ix := [[0], [1], [2], [3], [4], [4]]) (S := fun w' => Blk w' g5 156 (ints .u32 r) ∧ Blk w' g7 156 (ints .u32 c2) ∧ (∃ hx, hx.length = 17 ∧ Blk w' g6 156 (ints .u32 hx)) ∧ ∃ hx, GB w w' g2 g4 g5 g6 g7 key r hx c2)
                        (R := fun iO w1 w2 => if iO = 5 then ∃ cs, w2 = w1.setRow g6 cs else (Below w1.heap.size w1 w2))
                        (U := fun iO w1 => match iO with
                          | 0 => Blk w1 g6 156 (ints .u32 h)
                          | _ => True)
                        (kill := fun jO => match jO with
                          | _ => none)
                        (p := fun jO vs w' => match jO with
                          | 0 => vs 0 = .agg (ints .u32 h).toArray
                          | 1 => vs 1 = .agg (ints .u32 c2).toArray
                          | 2 => vs 2 = .agg (ints .u32 (plus1 h c2)).toArray
                          | 3 => vs 3 = .agg (ints .u32 r).toArray
                          | 4 => vs 4 = .agg (ints .u32 (timesT (plus1 h c2) r)).toArray
                          | 5 => Blk w' g6 156 (ints .u32 (timesT (plus1 h c2) r))
                          | _ => True)
                        (ks := [])
                        (hm := by kernel_rfl) (hc := by kernel_rfl) ?_ ?_ ?_ ?_ ?_ ?_
                      · exact ⟨hX.r.drew, hX.c.drew, ⟨h, hX.hl, hX.h.drew⟩, h, hX.drew⟩
                      · intro iO jO vs w1 w2 hij hw hkl hR h
                        have hB : iO ≠ 5 → Below w1.heap.size w1 w2 := fun h5 => by rw [if_neg h5] at hR; exact hR
                        match jO with
                        | 0 | 1 | 2 | 3 | 4 => exact h
                        | 5 => exact Blk.belowAll h (hB (by rintro rfl; exact hij rfl))
                        | nO + 6 => trivial
                      · intro jO
                        match jO with
                        | 0 => exact hX.h.drew
                        | 1 | 2 | 3 | 4 | 5 | nO + 6 => trivial
                      · intro iO jO w1 w2 hij hw hR h
                        have hB : iO ≠ 5 → Below w1.heap.size w1 w2 := fun h5 => by rw [if_neg h5] at hR; exact hR
                        match jO with
                        | 0 => exact Blk.belowAll h (hB (by rintro rfl; exact absurd (Eq.trans (by kernel_rfl : true = _) hw) (by decide)))
                        | 1 | 2 | 3 | 4 | 5 | nO + 6 => trivial
                      · refine ⟨?_, ?_, ?_, ?_, ?_, ?_, trivial⟩
                        · (intro vs w2 hS hU hd; simp [Region.binds, Fact.at] at hd; simp only [fill, List.take_succ_cons, List.take_zero, Act.put, List.setIfInBounds_toArray, List.set_cons_zero, List.set_cons_succ, Nat.reduceAdd])
                          have hU' : Blk w2 g6 156 (ints .u32 h) := hU
                          go_wp2_with (first
                            | (refine load_blk rfl 156 _ rfl g6 rfl 156 _ hU' 17 29 arr88 (by simpa using hhl.out) info88 ?_)
                            | fail)
                          exact ⟨rfl, rfl, hS, Below.refl _ _⟩
                        · (intro vs w2 hS hU hd; simp [Region.binds, Fact.at] at hd; simp only [fill, List.take_succ_cons, List.take_zero, Act.put, List.setIfInBounds_toArray, List.set_cons_zero, List.set_cons_succ, Nat.reduceAdd])
                          try simp only [hd]
                          go_wp2_with (first
                            | (refine load_blk rfl 156 _ rfl g7 rfl 156 _ hS.2.1 17 29 arr88 (by simpa using hbl.out) info88 ?_)
                            | fail)
                          exact ⟨rfl, rfl, hS, Below.refl _ _⟩
                        · (intro vs w2 hS hU hd; simp [Region.binds, Fact.at] at hd; simp only [fill, List.take_succ_cons, List.take_zero, Act.put, List.setIfInBounds_toArray, List.set_cons_zero, List.set_cons_succ, Nat.reduceAdd])
                          try simp only [hd]
                          go_wp2_with (first
                            | (go_at_call 105; refine (plus1_calls h c2 _ hhl.out hbl.out).mono ?_; rintro e w3 ⟨rfl, hB9⟩)
                            | fail)
                          obtain ⟨h5, h7, ⟨hx, hxl, h6⟩, hy, hg⟩ := hS
                          exact ⟨rfl, rfl, ⟨h5.belowAll hB9, h7.belowAll hB9, ⟨hx, hxl, h6.belowAll hB9⟩, hy, hg.below hB9⟩, hB9⟩
                        · (intro vs w2 hS hU hd; simp [Region.binds, Fact.at] at hd; simp only [fill, List.take_succ_cons, List.take_zero, Act.put, List.setIfInBounds_toArray, List.set_cons_zero, List.set_cons_succ, Nat.reduceAdd])
                          try simp only [hd]
                          go_wp2_with (first
                            | (refine load_blk rfl 156 _ rfl g5 rfl 156 _ hS.1 17 29 arr88 (by simpa using hcm.out) info88 ?_)
                            | fail)
                          exact ⟨rfl, rfl, hS, Below.refl _ _⟩
                        · (intro vs w2 hS hU hd; simp [Region.binds, Fact.at] at hd; simp only [fill, List.take_succ_cons, List.take_zero, Act.put, List.setIfInBounds_toArray, List.set_cons_zero, List.set_cons_succ, Nat.reduceAdd])
                          try simp only [hd]
                          go_wp2_with (first
                            | (go_at_call 104; refine (times1_calls (plus1 h c2) r _ hPL.out hcm.out).mono ?_; rintro e w3 ⟨rfl, hB9⟩)
                            | fail)
                          obtain ⟨h5, h7, ⟨hx, hxl, h6⟩, hy, hg⟩ := hS
                          exact ⟨rfl, rfl, ⟨h5.belowAll hB9, h7.belowAll hB9, ⟨hx, hxl, h6.belowAll hB9⟩, hy, hg.below hB9⟩, hB9⟩
                        · (intro vs w2 hS hU hd; simp [Region.binds, Fact.at] at hd; simp only [fill, List.take_succ_cons, List.take_zero, Act.put, List.setIfInBounds_toArray, List.set_cons_zero, List.set_cons_succ, Nat.reduceAdd])
                          obtain ⟨h5, h7, ⟨hx, hxl, h6⟩, hy, hg⟩ := hS
                          simp only [hd]
                          go_wp2_with (first
                            | (refine store_blk rfl 156 _ _ rfl g6 (ints .u32 (timesT (plus1 h c2) r)) rfl rfl 156 _ h6 17 info88 (by simpa using hTL.out) (by simpa using hxl) (ints_one _ _) ?_)
                            | fail)
                          have hg2 := hg.rowH hz _ hTL.out
                          exact ⟨rfl, h6.setRow _, ⟨hg2.r, hg2.c, ⟨_, hTL.out, hg2.h⟩, _, hg2⟩, ⟨_, rfl⟩⟩
                      · intro vs wq hf hS
                        have h5 : Blk wq g6 156 (ints .u32 (timesT (plus1 h c2) r)) := hf 5 (by simp) rfl
                        obtain ⟨_, _, _, hy, hg⟩ := hS
                        have hX9 : GB w wq g2 g4 g5 g6 g7 key r (hTo r bs (n + 1)) c2 := by
                          rw [← hHN.out]
                          exact ⟨hTL.out, hg.k, hg.o, hg.r, h5, hg.c, hg.bel⟩
                        simp only [fill, Act.put, List.setIfInBounds_toArray, List.set_cons_zero, List.set_cons_succ, Nat.reduceAdd]
                        clear hf
                        go_wp2_with fail
                        go_roundg (gk1 - 1)
                        case measure => have := hq1.out; have := hgk.out; omega
                        case rel => exact ⟨n + 1, by omega, by go_num, hid (by have := hq1.out; have := hgk.out; omega), c2, hbl, hX9⟩
                · obtain rfl : n = (m + 15) / 16 := by omega
                  have a0 : ¬ (16 * (((m + 15) / 16 : Nat) : Int) < m) := by omega
                  clear hq hn hlt
                  generalize (m + 15) / 16 = n at hX HTAG a0
                  have hhl := hid hX.hl
                  generalize hTo r bs n = h at hX HTAG hhl
                  have hcl5 := hid hX.c.lt
                  go_wp2_with (first
                    | (refine load_blk rfl 156 (.tmp 14) rfl g14 rfl 156 _ hb14z 17 29 arr88 (by simpa using hhl.out) info88 ?_)
                    | (have hx := hB28; refine load_blk rfl 156 _ rfl g6 rfl 156 _ hX.h 17 29 arr88 (by simpa using hhl.out) info88 ?_; clear hx)
                    | (refine load_blk rfl 156 (.tmp 15) rfl g15 rfl 156 _ hb15y 17 29 arr88 (by rfl) info88 ?_)
                    | (have hx := hb14y; refine load_blk rfl 156 (.tmp 6) rfl g6 rfl 156 _ hX.h 17 29 arr88 (by simpa using hhl.out) info88 ?_; clear hx)
                    | (refine load_blk rfl 156 (.tmp 6) rfl g6 rfl 156 _ hX.h 17 29 arr88 (by simpa using hhl.out) info88 ?_)
                    | (have hx := hb14y; refine alloc_blk rfl 156 rfl _ rfl (ints .u32 (List.replicate 17 0)) zeroA17w ?_; clear hx; intro g15 w7 hg15 hb15 hB15 hs15
                       have hz15a : Hd (g14 < g15) := hid (by have := hb14y.lt; omega)
                       replace hX := hX.below hB15
                       replace hb14y := hb14y.belowAll hB15)
                    | (refine alloc_blk rfl 156 rfl _ rfl (ints .u32 (List.replicate 17 0)) zeroA17w ?_; intro g14 w6 hg14 hb14 hB14 hs14
                       replace hX := hX.below hB14)
                    | (refine build_to rfl 156 _ rfl (ints .u32 minusA).toArray (by kernel_rfl) ?_)
                    | (refine store_blk rfl 156 (.tmp 14) _ rfl g14 (ints .u32 h) rfl rfl 156 _ hb14 17 info88 (by simpa using hhl.out) (by simp) (ints_one _ _) ?_
                       have hz14 : Hd (g7 < g14) := hid (by have := hcl5.out; omega)
                       replace hX := hX.other hz hz14.out (ints .u32 h).toArray
                       have hb14y := hb14.setRow (ints .u32 h)
                       clear hb14 hB14 hs14 hg14
                       generalize w6.setRow g14 (ints .u32 h).toArray = w6' at *)
                    | (refine store_blk rfl 156 (.tmp 15) _ rfl g15 (ints .u32 minusA) rfl rfl 156 _ hb15 17 info88 (by rfl) (by simp) (ints_one _ _) ?_
                       have hz15 : Hd (g7 < g15 ∧ g14 < g15) := hid (by have := hz15a.out; have := hz14.out; omega)
                       replace hX := (hX.other hz hz15.out.1 (ints .u32 minusA).toArray).otherC hz hz15.out.1 16 (.int .u32 252)
                       replace hb14y := (hb14y.setRowOther (g' := g15) (by have := hz15.out; omega) (ints .u32 minusA).toArray).setOther (a := ⟨g15, 16, none⟩) (by have := hz15.out; simp; omega) (.int .u32 252)
                       have hb15x := hb15.setRow (ints .u32 minusA)
                       have c16 := hb15x.cellI 16 (by decide)
                       have f16 := hb15x.frozen 16
                       clear hb15 hB15 hs15 hg15
                       have hb15y := hb15x.setI 16 252)
                    | fail)
                  rw [minusA_set] at hb15y
                  rw [show minusA.set 16 252 = minusP from minusA_set]
                  clear c16 f16 hb15x hz15a
                  generalize (w7.setRow g15 (ints .u32 minusA).toArray).setCell ⟨g15, 16, none⟩ (.int .u32 252) = w8 at *
                  refine (plus1_calls h minusP _ hhl.out rfl).mono ?_
                  rintro e w9 ⟨rfl, hB28⟩
                  replace hX := hX.below hB28
                  replace hb14y := hb14y.belowAll hB28
                  have hPL : Hd ((plus1 h minusP).length = 17) := hid (by rw [plus1_length]; exact hhl.out)
                  have hF1 : rd (plus1 h minusP) 16 / 128 = 0 → Hd (finT h = plus1 h minusP) := fun h0 => hid (by rw [finT, if_pos h0])
                  have hF2 : ¬ rd (plus1 h minusP) 16 / 128 = 0 → Hd (finT h = h) := fun h0 => hid (by rw [finT, if_neg h0])
                  clear hb15y hB28 hz15
                  generalize plus1 h minusP = P at hPL hF1 hF2 ⊢
                  generalize finT h = F at hF1 hF2 HTAG
                  have hX6 := hX.rowH hz P hPL.out
                  have c16 := hX6.h.cellI 16 (by have := hPL.out; omega)
                  replace hb14y := hb14y.setRowOther (g' := g6) (by have := hz14.out; have := hz.out.e; omega) (ints .u32 P).toArray
                  by_cases hp0 : rd P 16 / 128 = 0
                  · have hF := hF1 hp0
                    clear hF1 hF2
                    go_wp2_with (first
                      | (have hx := hX7; refine store_blk rfl 156 (.tmp 7) _ rfl g7 (ints .u32 (List.replicate 17 0)) rfl rfl 156 _ hX7.c 17 info88 (by simp) (by simpa using hcl2.out) (ints_one _ _) ?_; clear hx)
                      | (refine store_blk rfl 156 (.tmp 6) _ rfl g6 (ints .u32 P) rfl rfl 156 _ hX.h 17 info88 (by simpa using hPL.out) (by simpa using hhl.out) (ints_one _ _) ?_
                         have hX7 := hX6
                         generalize w9.setRow g6 (ints .u32 P).toArray = wk at *)
                      | (refine build_to rfl 156 _ rfl (ints .u32 (List.replicate 17 0)).toArray (by kernel_rfl) ?_)
                      | fail)
                    replace hX := hX7.rowC hz (putTo (fun j => rd key (16 + j)) 0)
                    change GB w (wk.setRow g7 (ints .u32 (List.replicate 17 0)).toArray) g2 g4 g5 g6 g7 key r P (putTo (fun j => rd key (16 + j)) 0) at hX
                    change Code.wp _ _ _ _ (wk.setRow g7 (ints .u32 (List.replicate 17 0)).toArray)
                    rw [hF.out] at HTAG
                    have hLL := hid hX.hl
                    clear hX7 hX6 hb14y c16 hp0 hF
                    generalize wk.setRow g7 (ints .u32 (List.replicate 17 0)).toArray = wn at hX ⊢
                    go_loopg [16] 17 (fun kq v16 wr => ∃ j : Nat, j ≤ 16 ∧ v16 = .int .i64 j ∧ Hd (kq + j = 17) ∧ GB w wr g2 g4 g5 g6 g7 key r P (putTo (fun j => rd key (16 + j)) j))
                    case atStart => exact ⟨0, by omega, rfl, hid (by omega), hX⟩
                    case round =>
                      clear hX
                      obtain ⟨j, hj, rfl, hqj, hX⟩ := hrel
                      have hcl3 : Hd ((putTo (fun j => rd key (16 + j)) j).length = 17) := hid (putTo_length _ _)
                      by_cases hjlt : j < 16
                      · have a1 : (j : Int) < 17 := by omega
                        have a2 : 16 + (j : Int) < 32 := by omega
                        obtain ⟨q, hqq⟩ : ∃ q : Nat, Hd (q = 16 + j) := ⟨_, hid rfl⟩
                        have a3 : 16 + (j : Int) = (q : Int) := by have := hqq.out; omega
                        have a4 : (q : Int) < 32 := by have := hqq.out; omega
                        have a5 : IntKind.i64.wrap (q : Int) = (q : Int) := IntWalk.i64_in _ (by omega)
                        have ck := hX.k.cellI q (by have := HK.out; omega)
                        have cr := hX.c.cellI j (by have := hcl3.out; omega)
                        have fr := hX.c.frozen j
                        have kb := rk q
                        have hE : Hd (putTo (fun j => rd key (16 + j)) (j + 1) = (putTo (fun j => rd key (16 + j)) j).set j (rd key q)) := hid (by rw [putTo_succ, hqq.out])
                        generalize rd key q = K at ck kb hE
                        go_wp2_with fail
                        go_roundg (gk - 1)
                        case measure => have := hqj.out; omega
                        case rel => exact ⟨j + 1, by omega, by go_num, hid (by have := hqj.out; omega), by rw [hE.out]; exact hX.setC hz j K⟩
                      · obtain rfl : j = 16 := by omega
                        clear hqj hj hjlt
                        generalize putTo (fun j => rd key (16 + j)) 16 = c3 at hX HTAG hcl3
                        have hPL2 : Hd ((plus1 P c3).length = 17) := hid (by rw [plus1_length]; exact hLL.out)
                        go_wp2_with (first
                          | (refine load_blk rfl 156 (.tmp 6) rfl g6 rfl 156 _ hX.h 17 29 arr88 (by simpa using hLL.out) info88 ?_)
                          | (refine load_blk rfl 156 (.tmp 7) rfl g7 rfl 156 _ hX.c 17 29 arr88 (by simpa using hcl3.out) info88 ?_)
                          | (go_at_call 105; refine (plus1_calls P c3 _ hLL.out hcl3.out).mono ?_; rintro e w10 ⟨rfl, hB29⟩
                             replace hX := hX.below hB29
                             generalize plus1 P c3 = H at *)
                          | (refine store_blk rfl 156 (.tmp 6) _ rfl g6 (ints .u32 H) rfl rfl 156 _ hX.h 17 info88 (by simpa using hPL2.out) (by simpa using hLL.out) (ints_one _ _) ?_
                             replace hX := hX.rowH hz H hPL2.out
                             clear hB29
                             generalize w10.setRow g6 (ints .u32 H).toArray = w11 at *)
                          | (refine alloc_blk rfl 125 rfl _ rfl (ints .u8 (List.replicate 16 0)) zeroT16 ?_; intro g17 w12 hg17 hb17 hB17 hs17)
                          | fail)
                        have hz17 : Hd (g7 < g17) := hid (by have := hX.c.lt; omega)
                        replace hX := hX.below hB17
                        clear hg17 hB17 hs17
                        go_loopg [18] 17 (fun kq v18 wr => ∃ j : Nat, j ≤ 16 ∧ v18 = .int .i64 j ∧ Hd (kq + j = 17) ∧ GB w wr g2 g4 g5 g6 g7 key r H c3 ∧ Blk wr g17 125 (ints .u8 (outT H j)))
                        case atStart => exact ⟨0, by omega, rfl, hid (by omega), hX, hb17⟩
                        case round =>
                          clear hX hb17
                          obtain ⟨j, hj, rfl, hqj, hX, hb17⟩ := hrel
                          have hcl6 : Hd ((outT H j).length = 16) := hid (outT_length _ _)
                          by_cases hjlt : j < 16
                          · have a1 : (j : Int) < 17 := by omega
                            have a2 : (j : Int) < 16 := by omega
                            have ch := hX.h.cellI j (by have := hPL2.out; omega)
                            have cr := hb17.cellI j (by have := hcl6.out; omega)
                            have fr := hb17.frozen j
                            have hE : Hd (outT H (j + 1) = (outT H j).set j (rd H j % 256)) := hid (outT_succ _ _)
                            generalize rd H j = K at ch hE
                            go_wp2_with fail
                            go_roundg (gk - 1)
                            case measure => have := hqj.out; omega
                            case rel => exact ⟨j + 1, by omega, by go_num, hid (by have := hqj.out; omega), hX.otherC hz hz17.out j _, by rw [hE.out]; exact hb17.setI j _⟩
                          · obtain rfl : j = 16 := by omega
                            clear hqj hj hjlt
                            rw [HTAG.out] at hb17 hcl6
                            obtain ⟨TT, hTT⟩ : ∃ TT, Hd (tagT key bs = TT) := ⟨_, hid rfl⟩
                            rw [hTT.out] at hb17 hcl6
                            go_wp2_with (first
                              | (refine load_blk rfl 125 _ rfl g17 rfl 125 _ hb17 16 5 undT16 (by simpa using hcl6.out) infoT16 ?_)
                              | (refine store_blk rfl 125 _ _ rfl g4 (ints .u8 TT) rfl rfl 125 _ hX.o 16 infoT16 (by simpa using hcl6.out) (by simp) (ints_one _ _) ?_)
                              | fail)
                            refine bodyPost_ret (results_blk rfl _ _ g4 125 _ 16 5 rfl (hX.o.setRow _) undT16 (by simpa using hcl6.out) infoT16) rfl ?_
                            exact ⟨by rw [hTT.out], below_setRow hX.bel (by have h1 := hz.out.a; have h2 := hz.out.b; omega) _⟩
                  · have hF := hF2 hp0
                    clear hF1 hF2
                    go_wp2_with (first
                      | (have hx := hX7; refine store_blk rfl 156 (.tmp 7) _ rfl g7 (ints .u32 (List.replicate 17 0)) rfl rfl 156 _ hX7.c 17 info88 (by simp) (by simpa using hcl2.out) (ints_one _ _) ?_; clear hx)
                      | (have hx := hy6; refine store_blk rfl 156 (.tmp 6) _ rfl g6 (ints .u32 h) rfl rfl 156 _ hX6.h 17 info88 (by simpa using hhl.out) (by simpa using hPL.out) (ints_one _ _) ?_; clear hx
                         have hX7 := hX6.rowH hz h hhl.out
                         generalize (wj.setRow g6 (ints .u32 h).toArray) = wk at *)
                      | (refine load_blk rfl 156 (.tmp 14) rfl g14 rfl 156 _ hb14y 17 29 arr88 (by simpa using hhl.out) info88 ?_)
                      | (refine store_blk rfl 156 (.tmp 6) _ rfl g6 (ints .u32 P) rfl rfl 156 _ hX.h 17 info88 (by simpa using hPL.out) (by simpa using hhl.out) (ints_one _ _) ?_
                         have hy6 := hX6.h
                         generalize w9.setRow g6 (ints .u32 P).toArray = wj at *)
                      | (refine build_to rfl 156 _ rfl (ints .u32 (List.replicate 17 0)).toArray (by kernel_rfl) ?_)
                      | fail)
                    replace hX := hX7.rowC hz (putTo (fun j => rd key (16 + j)) 0)
                    change GB w (wk.setRow g7 (ints .u32 (List.replicate 17 0)).toArray) g2 g4 g5 g6 g7 key r h (putTo (fun j => rd key (16 + j)) 0) at hX
                    change Code.wp _ _ _ _ (wk.setRow g7 (ints .u32 (List.replicate 17 0)).toArray)
                    rw [hF.out] at HTAG
                    have hLL := hid hX.hl
                    clear hX7 hX6 hb14y c16 hp0 hF
                    generalize wk.setRow g7 (ints .u32 (List.replicate 17 0)).toArray = wn at hX ⊢
                    go_loopg [16] 17 (fun kq v16 wr => ∃ j : Nat, j ≤ 16 ∧ v16 = .int .i64 j ∧ Hd (kq + j = 17) ∧ GB w wr g2 g4 g5 g6 g7 key r h (putTo (fun j => rd key (16 + j)) j))
                    case atStart => exact ⟨0, by omega, rfl, hid (by omega), hX⟩
                    case round =>
                      clear hX
                      obtain ⟨j, hj, rfl, hqj, hX⟩ := hrel
                      have hcl3 : Hd ((putTo (fun j => rd key (16 + j)) j).length = 17) := hid (putTo_length _ _)
                      by_cases hjlt : j < 16
                      · have a1 : (j : Int) < 17 := by omega
                        have a2 : 16 + (j : Int) < 32 := by omega
                        obtain ⟨q, hqq⟩ : ∃ q : Nat, Hd (q = 16 + j) := ⟨_, hid rfl⟩
                        have a3 : 16 + (j : Int) = (q : Int) := by have := hqq.out; omega
                        have a4 : (q : Int) < 32 := by have := hqq.out; omega
                        have a5 : IntKind.i64.wrap (q : Int) = (q : Int) := IntWalk.i64_in _ (by omega)
                        have ck := hX.k.cellI q (by have := HK.out; omega)
                        have cr := hX.c.cellI j (by have := hcl3.out; omega)
                        have fr := hX.c.frozen j
                        have kb := rk q
                        have hE : Hd (putTo (fun j => rd key (16 + j)) (j + 1) = (putTo (fun j => rd key (16 + j)) j).set j (rd key q)) := hid (by rw [putTo_succ, hqq.out])
                        generalize rd key q = K at ck kb hE
                        go_wp2_with fail
                        go_roundg (gk - 1)
                        case measure => have := hqj.out; omega
                        case rel => exact ⟨j + 1, by omega, by go_num, hid (by have := hqj.out; omega), by rw [hE.out]; exact hX.setC hz j K⟩
                      · obtain rfl : j = 16 := by omega
                        clear hqj hj hjlt
                        generalize putTo (fun j => rd key (16 + j)) 16 = c3 at hX HTAG hcl3
                        have hPL2 : Hd ((plus1 h c3).length = 17) := hid (by rw [plus1_length]; exact hLL.out)
                        go_wp2_with (first
                          | (refine load_blk rfl 156 (.tmp 6) rfl g6 rfl 156 _ hX.h 17 29 arr88 (by simpa using hLL.out) info88 ?_)
                          | (refine load_blk rfl 156 (.tmp 7) rfl g7 rfl 156 _ hX.c 17 29 arr88 (by simpa using hcl3.out) info88 ?_)
                          | (go_at_call 105; refine (plus1_calls h c3 _ hLL.out hcl3.out).mono ?_; rintro e w10 ⟨rfl, hB29⟩
                             replace hX := hX.below hB29
                             generalize plus1 h c3 = H at *)
                          | (refine store_blk rfl 156 (.tmp 6) _ rfl g6 (ints .u32 H) rfl rfl 156 _ hX.h 17 info88 (by simpa using hPL2.out) (by simpa using hLL.out) (ints_one _ _) ?_
                             replace hX := hX.rowH hz H hPL2.out
                             clear hB29
                             generalize w10.setRow g6 (ints .u32 H).toArray = w11 at *)
                          | (refine alloc_blk rfl 125 rfl _ rfl (ints .u8 (List.replicate 16 0)) zeroT16 ?_; intro g17 w12 hg17 hb17 hB17 hs17)
                          | fail)
                        have hz17 : Hd (g7 < g17) := hid (by have := hX.c.lt; omega)
                        replace hX := hX.below hB17
                        clear hg17 hB17 hs17
                        go_loopg [18] 17 (fun kq v18 wr => ∃ j : Nat, j ≤ 16 ∧ v18 = .int .i64 j ∧ Hd (kq + j = 17) ∧ GB w wr g2 g4 g5 g6 g7 key r H c3 ∧ Blk wr g17 125 (ints .u8 (outT H j)))
                        case atStart => exact ⟨0, by omega, rfl, hid (by omega), hX, hb17⟩
                        case round =>
                          clear hX hb17
                          obtain ⟨j, hj, rfl, hqj, hX, hb17⟩ := hrel
                          have hcl6 : Hd ((outT H j).length = 16) := hid (outT_length _ _)
                          by_cases hjlt : j < 16
                          · have a1 : (j : Int) < 17 := by omega
                            have a2 : (j : Int) < 16 := by omega
                            have ch := hX.h.cellI j (by have := hPL2.out; omega)
                            have cr := hb17.cellI j (by have := hcl6.out; omega)
                            have fr := hb17.frozen j
                            have hE : Hd (outT H (j + 1) = (outT H j).set j (rd H j % 256)) := hid (outT_succ _ _)
                            generalize rd H j = K at ch hE
                            go_wp2_with fail
                            go_roundg (gk - 1)
                            case measure => have := hqj.out; omega
                            case rel => exact ⟨j + 1, by omega, by go_num, hid (by have := hqj.out; omega), hX.otherC hz hz17.out j _, by rw [hE.out]; exact hb17.setI j _⟩
                          · obtain rfl : j = 16 := by omega
                            clear hqj hj hjlt
                            rw [HTAG.out] at hb17 hcl6
                            obtain ⟨TT, hTT⟩ : ∃ TT, Hd (tagT key bs = TT) := ⟨_, hid rfl⟩
                            rw [hTT.out] at hb17 hcl6
                            go_wp2_with (first
                              | (refine load_blk rfl 125 _ rfl g17 rfl 125 _ hb17 16 5 undT16 (by simpa using hcl6.out) infoT16 ?_)
                              | (refine store_blk rfl 125 _ _ rfl g4 (ints .u8 TT) rfl rfl 125 _ hX.o 16 infoT16 (by simpa using hcl6.out) (by simp) (ints_one _ _) ?_)
                              | fail)
                            refine bodyPost_ret (results_blk rfl _ _ g4 125 _ 16 5 rfl (hX.o.setRow _) undT16 (by simpa using hcl6.out) infoT16) rfl ?_
                            exact ⟨by rw [hTT.out], below_setRow hX.bel (by have h1 := hz.out.a; have h2 := hz.out.b; omega) _⟩
end Go.Proofs.YtlikinglgegclaaDoor
/- The reference's tag is the program's. -/
namespace Go.Proofs.YtlikinglgegclaaDoor
open Go.RowKit Go.Cour
def sum1 (f : Nat → Int) : Nat → Int
  | 0 => 0
  | n + 1 => sum1 f n + f n
theorem sum1_congr {f g : Nat → Int} : ∀ n, (∀ i, i < n → f i = g i) → sum1 f n = sum1 g n
  | 0, _ => rfl
  | n + 1, h => by
    unfold sum1
    rw [sum1_congr n (fun i hi => h i (by omega)), h n (by omega)]
theorem sum1_add (f g : Nat → Int) : ∀ n, sum1 (fun i => f i + g i) n = sum1 f n + sum1 g n
  | 0 => rfl
  | n + 1 => by
    unfold sum1
    rw [sum1_add f g n]
    omega
theorem sum1_mul (c : Int) (f : Nat → Int) : ∀ n, sum1 (fun i => c * f i) n = c * sum1 f n
  | 0 => by simp [sum1]
  | n + 1 => by
    unfold sum1
    rw [sum1_mul c f n, Int.mul_add]
theorem sum1_split (f : Nat → Int) (a : Nat) : ∀ b, sum1 f (a + b) = sum1 f a + sum1 (fun k => f (a + k)) b
  | 0 => by simp [sum1]
  | b + 1 => by
    have e1 : sum1 f (a + (b + 1)) = sum1 f (a + b) + f (a + b) := rfl
    have e2 : sum1 (fun k => f (a + k)) (b + 1) = sum1 (fun k => f (a + k)) b + f (a + b) := rfl
    rw [e1, e2, sum1_split f a b]
    omega
theorem sum1_zero : ∀ n, sum1 (fun _ => 0) n = 0
  | 0 => rfl
  | n + 1 => by unfold sum1; rw [sum1_zero n]; rfl
theorem sum1_swap (f : Nat → Nat → Int) (n : Nat) : ∀ m, sum1 (fun i => sum1 (fun j => f i j) n) m = sum1 (fun j => sum1 (fun i => f i j) m) n
  | 0 => by
    show 0 = sum1 (fun _ => 0) n
    exact (sum1_zero n).symm
  | m + 1 => by
    have e : sum1 (fun i => sum1 (fun j => f i j) n) (m + 1) = sum1 (fun i => sum1 (fun j => f i j) n) m + sum1 (fun j => f m j) n := rfl
    rw [e, sum1_swap f n m, ← sum1_add]
    rfl
theorem valB_sum (b : List Int) : ∀ n, valB b n = sum1 (fun i => rd b i * 2 ^ (8 * i)) n
  | 0 => rfl
  | n + 1 => by
    unfold valB sum1
    rw [valB_sum b n]
theorem valB_congr {a b : List Int} (n : Nat) (h : ∀ i, i < n → rd a i = rd b i) : valB a n = valB b n := by
  rw [valB_sum, valB_sum]
  exact sum1_congr n fun i hi => by rw [h i hi]
theorem valB_in' (b : List Int) : ∀ n, (∀ i, i < n → 0 ≤ rd b i ∧ rd b i < 256) → 0 ≤ valB b n ∧ valB b n < 2 ^ (8 * n)
  | 0, _ => by simp [valB]
  | n + 1, h => by
    have h1 := valB_in' b n (fun i hi => h i (by omega))
    have h2 := h n (by omega)
    unfold valB
    have e : (2 : Int) ^ (8 * (n + 1)) = 2 ^ (8 * n) * 256 := by rw [show 8 * (n + 1) = 8 * n + 8 by omega, Int.pow_add]; rfl
    rw [e]
    generalize (2 : Int) ^ (8 * n) = p at *
    generalize valB b n = V at *
    generalize rd b n = x at *
    have hp : 0 < p := by omega
    have h3 : 0 ≤ x * p := Int.mul_nonneg h2.1 (by omega)
    have h4 : x * p ≤ 255 * p := Int.mul_le_mul_of_nonneg_right (by omega) (by omega)
    omega
theorem m32_in' (x : Int) (h : 0 ≤ x ∧ x < 4294967296) : m32 x = x := Int.emod_eq_of_lt h.1 h.2
theorem p8_succ (n : Nat) : (2 : Int) ^ (8 * (n + 1)) = 2 ^ (8 * n) * 256 := by rw [show 8 * (n + 1) = 8 * n + 8 by omega, Int.pow_add]; rfl
theorem carT_val (s : List Int × Int) (hl : s.1.length = 17) (h : ∀ i, i < 17 → 0 ≤ rd s.1 i ∧ rd s.1 i < 2147483648) (hu : 0 ≤ s.2 ∧ s.2 < 2147483648) : ∀ n, n ≤ 17 →
    (0 ≤ (carT s n).2 ∧ (carT s n).2 < 2147483648 ∧ (0 < n → (carT s n).2 < 16777216)) ∧ (∀ i, i < n → 0 ≤ rd (carT s n).1 i ∧ rd (carT s n).1 i < 256) ∧ (∀ i, n ≤ i → rd (carT s n).1 i = rd s.1 i) ∧
      valB (carT s n).1 n + (carT s n).2 * 2 ^ (8 * n) = s.2 + valB s.1 n
  | 0, _ => ⟨⟨hu.1, hu.2, fun h => by omega⟩, fun i hi => by omega, fun i _ => rfl, by
      show valB s.1 0 + s.2 * 2 ^ (8 * 0) = _
      simp [valB]⟩
  | n + 1, hn => by
    obtain ⟨⟨h1, h2, h3⟩, h4, h5, h6⟩ := carT_val s hl h hu n (by omega)
    have hlc := carT_length s n
    rw [carT_succ]
    have h7 := h5 n (Nat.le_refl _)
    have h8 := h n (by omega)
    rw [← h7] at h8
    have hv : valB s.1 (n + 1) = valB s.1 n + rd (carT s n).1 n * 2 ^ (8 * n) := by rw [h7]; rfl
    generalize carT s n = C at *
    have hY : m32 (C.2 + rd C.1 n) = C.2 + rd C.1 n := m32_in' _ (by omega)
    obtain ⟨Y, hYe⟩ : ∃ Y, Y = C.2 + rd C.1 n := ⟨_, rfl⟩
    have hc : cstep C n = (C.1.set n (Y % 256), Y / 256) := by unfold cstep; rw [hY, hYe]
    rw [hc]
    refine ⟨⟨by show 0 ≤ Y / 256; omega, by show Y / 256 < _; omega, fun _ => by show Y / 256 < _; omega⟩, fun i hi => ?_, fun i hi => ?_, ?_⟩
    · show 0 ≤ rd (C.1.set n (Y % 256)) i ∧ rd (C.1.set n (Y % 256)) i < 256
      rw [rd_set']
      split
      · omega
      · exact h4 i (by omega)
    · show rd (C.1.set n (Y % 256)) i = _
      rw [rd_set', if_neg (by omega)]
      exact h5 i (by omega)
    · show valB (C.1.set n (Y % 256)) (n + 1) + Y / 256 * 2 ^ (8 * (n + 1)) = _
      have e1 : valB (C.1.set n (Y % 256)) (n + 1) = valB C.1 n + Y % 256 * 2 ^ (8 * n) := by
        show valB (C.1.set n (Y % 256)) n + rd (C.1.set n (Y % 256)) n * 2 ^ (8 * n) = _
        rw [valB_set _ _ _ n (Nat.le_refl _), rd_set', if_pos ⟨rfl, by omega⟩]
      rw [e1, p8_succ, hv]
      have hd := Int.emod_add_mul_ediv Y 256
      generalize (2 : Int) ^ (8 * n) = p at *
      generalize Y % 256 = q at *
      generalize Y / 256 = r at *
      grind
theorem plusS_val (h c : List Int) (hl : h.length = 17) (hh : ∀ i, i < 17 → 0 ≤ rd h i ∧ rd h i < 1073741824) (hc : ∀ i, i < 17 → 0 ≤ rd c i ∧ rd c i < 1073741824) : ∀ n, n ≤ 17 →
    (0 ≤ (plusS h c n).2 ∧ (plusS h c n).2 < 16777216) ∧ (∀ i, i < n → 0 ≤ rd (plusS h c n).1 i ∧ rd (plusS h c n).1 i < 256) ∧ (∀ i, n ≤ i → rd (plusS h c n).1 i = rd h i) ∧
      valB (plusS h c n).1 n + (plusS h c n).2 * 2 ^ (8 * n) = valB h n + valB c n
  | 0, _ => ⟨⟨by show (0 : Int) ≤ 0; omega, by show (0 : Int) < _; omega⟩, fun i hi => by omega, fun i _ => rfl, by
      show valB h 0 + 0 * 2 ^ (8 * 0) = _
      simp [valB]⟩
  | n + 1, hn => by
    obtain ⟨⟨h1, h2⟩, h4, h5, h6⟩ := plusS_val h c hl hh hc n (by omega)
    have hlc := plusS_length h c n
    rw [plusS_succ]
    have h7 := h5 n (Nat.le_refl _)
    have h8 := hh n (by omega)
    have h9 := hc n (by omega)
    rw [← h7] at h8
    have hv : valB h (n + 1) = valB h n + rd (plusS h c n).1 n * 2 ^ (8 * n) := by rw [h7]; rfl
    have hv2 : valB c (n + 1) = valB c n + rd c n * 2 ^ (8 * n) := rfl
    generalize plusS h c n = C at *
    have hY : m32 (m32 (C.2 + rd C.1 n) + rd c n) = C.2 + rd C.1 n + rd c n := by rw [m32_in' (C.2 + rd C.1 n) (by omega), m32_in' _ (by omega)]
    obtain ⟨Y, hYe⟩ : ∃ Y, Y = C.2 + rd C.1 n + rd c n := ⟨_, rfl⟩
    have hc : pstep c C n = (C.1.set n (Y % 256), Y / 256) := by unfold pstep; rw [hY, hYe]
    rw [hc]
    refine ⟨⟨by show 0 ≤ Y / 256; omega, by show Y / 256 < _; omega⟩, fun i hi => ?_, fun i hi => ?_, ?_⟩
    · show 0 ≤ rd (C.1.set n (Y % 256)) i ∧ rd (C.1.set n (Y % 256)) i < 256
      rw [rd_set']
      split
      · omega
      · exact h4 i (by omega)
    · show rd (C.1.set n (Y % 256)) i = _
      rw [rd_set', if_neg (by omega)]
      exact h5 i (by omega)
    · show valB (C.1.set n (Y % 256)) (n + 1) + Y / 256 * 2 ^ (8 * (n + 1)) = _
      have e1 : valB (C.1.set n (Y % 256)) (n + 1) = valB C.1 n + Y % 256 * 2 ^ (8 * n) := by
        show valB (C.1.set n (Y % 256)) n + rd (C.1.set n (Y % 256)) n * 2 ^ (8 * n) = _
        rw [valB_set _ _ _ n (Nat.le_refl _), rd_set', if_pos ⟨rfl, by omega⟩]
      rw [e1, p8_succ, hv, hv2]
      have hd := Int.emod_add_mul_ediv Y 256
      generalize (2 : Int) ^ (8 * n) = p at *
      generalize Y % 256 = q at *
      generalize Y / 256 = r at *
      grind
/-- A product's term, as a number. -/
def term1 (h r : List Int) (i j : Nat) : Int := if j ≤ i then rd h j * rd r (i - j) else 320 * (rd h j * rd r (i + 17 - j))
theorem byte_mul (a b : Int) (ha : 0 ≤ a ∧ a < 256) (hb : 0 ≤ b ∧ b < 256) : 0 ≤ a * b ∧ a * b ≤ 65025 := by
  have h1 := Int.mul_nonneg ha.1 hb.1
  have h2 : a * b ≤ 255 * b := Int.mul_le_mul_of_nonneg_right (by omega) hb.1
  omega
theorem termT_eq (h r : List Int) (hh : ∀ i, 0 ≤ rd h i ∧ rd h i < 256) (hr : ∀ i, 0 ≤ rd r i ∧ rd r i < 256) (i j : Nat) : termT h r i j = term1 h r i j ∧ 0 ≤ term1 h r i j ∧ term1 h r i j ≤ 20808000 := by
  unfold termT term1
  by_cases hle : j ≤ i
  · rw [if_pos hle, if_pos hle]
    have := byte_mul _ _ (hh j) (hr (i - j))
    exact ⟨m32_in' _ (by omega), by omega, by omega⟩
  · rw [if_neg hle, if_neg hle]
    have h1 := byte_mul _ _ (hh j) (hr (i + 17 - j))
    have h2 := hh j
    rw [m32_in' (rd h j * 320) (by omega)]
    have e : rd h j * 320 * rd r (i + 17 - j) = 320 * (rd h j * rd r (i + 17 - j)) := by
      rw [Int.mul_comm (rd h j) 320, Int.mul_assoc]
    rw [e]
    exact ⟨m32_in' _ (by omega), by omega, by omega⟩
theorem accT_eq (h r : List Int) (hh : ∀ i, 0 ≤ rd h i ∧ rd h i < 256) (hr : ∀ i, 0 ≤ rd r i ∧ rd r i < 256) (i : Nat) : ∀ n, n ≤ 17 → accT h r i n = sum1 (term1 h r i) n ∧ 0 ≤ accT h r i n ∧ accT h r i n ≤ 20808000 * (n : Int)
  | 0, _ => ⟨rfl, by show (0 : Int) ≤ 0; omega, by show (0 : Int) ≤ _; omega⟩
  | n + 1, hn => by
    obtain ⟨h1, h2, h3⟩ := accT_eq h r hh hr i n (by omega)
    obtain ⟨h4, h5, h6⟩ := termT_eq h r hh hr i n
    unfold accT sum1
    rw [h4, h1] at *
    rw [m32_in' _ (by omega)]
    exact ⟨rfl, by omega, by omega⟩
theorem p136 : (2 : Int) ^ (8 * 17) = 64 * pP + 320 := by decide
/-- A row of the product: one byte times the other number, but for a multiple of the modulus. -/
theorem row_val (h r : List Int) (j : Nat) (hj : j ≤ 17) :
    rd h j * 2 ^ (8 * j) * valB r 17 = sum1 (fun i => term1 h r i j * 2 ^ (8 * i)) 17 + pP * (64 * sum1 (fun i => rd h j * rd r (17 - j + i) * 2 ^ (8 * i)) j) := by
  obtain ⟨d, hd⟩ : ∃ d, d = 17 - j := ⟨_, rfl⟩
  have hjd : 17 = j + d := by omega
  have hdj : 17 = d + j := by omega
  have e1 : sum1 (fun i => term1 h r i j * 2 ^ (8 * i)) 17 = sum1 (fun i => term1 h r i j * 2 ^ (8 * i)) j + sum1 (fun k => term1 h r (j + k) j * 2 ^ (8 * (j + k))) d := by
    have := sum1_split (fun i => term1 h r i j * 2 ^ (8 * i)) j d
    rw [← hjd] at this
    exact this
  have e2 : valB r 17 = sum1 (fun k => rd r k * 2 ^ (8 * k)) d + sum1 (fun i => rd r (d + i) * 2 ^ (8 * (d + i))) j := by
    have := sum1_split (fun k => rd r k * 2 ^ (8 * k)) d j
    rw [← hdj] at this
    rw [valB_sum]
    exact this
  have e3 : sum1 (fun k => term1 h r (j + k) j * 2 ^ (8 * (j + k))) d = rd h j * 2 ^ (8 * j) * sum1 (fun k => rd r k * 2 ^ (8 * k)) d := by
    rw [← sum1_mul]
    refine sum1_congr d fun k hk => ?_
    unfold term1
    rw [if_pos (by omega), show j + k - j = k by omega, Nat.mul_add, Int.pow_add]
    grind
  have e4 : sum1 (fun i => term1 h r i j * 2 ^ (8 * i)) j = 320 * sum1 (fun i => rd h j * rd r (d + i) * 2 ^ (8 * i)) j := by
    rw [← sum1_mul]
    refine sum1_congr j fun i hi => ?_
    unfold term1
    rw [if_neg (by omega), show i + 17 - j = d + i by omega]
    grind
  have e5 : rd h j * 2 ^ (8 * j) * sum1 (fun i => rd r (d + i) * 2 ^ (8 * (d + i))) j = (64 * pP + 320) * sum1 (fun i => rd h j * rd r (d + i) * 2 ^ (8 * i)) j := by
    rw [← sum1_mul, ← sum1_mul, ← p136]
    refine sum1_congr j fun i hi => ?_
    have e6 : (2 : Int) ^ (8 * 17) * 2 ^ (8 * i) = 2 ^ (8 * j) * 2 ^ (8 * (d + i)) := by
      rw [← Int.pow_add, ← Int.pow_add]
      congr 1
      omega
    grind
  rw [e1, e2, Int.mul_add, e3, e4, e5, ← hd]
  generalize sum1 (fun i => rd h j * rd r (d + i) * 2 ^ (8 * i)) j = X
  generalize rd h j * 2 ^ (8 * j) * sum1 (fun k => rd r k * 2 ^ (8 * k)) d = Y
  grind
theorem prod_val (h r : List Int) : ∃ o, valB h 17 * valB r 17 = sum1 (fun i => sum1 (term1 h r i) 17 * 2 ^ (8 * i)) 17 + pP * o := by
  refine ⟨sum1 (fun j => 64 * sum1 (fun i => rd h j * rd r (17 - j + i) * 2 ^ (8 * i)) j) 17, ?_⟩
  rw [← sum1_mul]
  have e1 : valB h 17 * valB r 17 = sum1 (fun j => rd h j * 2 ^ (8 * j) * valB r 17) 17 := by
    rw [valB_sum h 17, Int.mul_comm, ← sum1_mul]
    refine sum1_congr 17 fun i hi => ?_
    rw [Int.mul_comm]
  rw [e1, sum1_congr 17 (fun j hj => row_val h r j (by omega)), sum1_add, ← sum1_swap (fun i j => term1 h r i j * 2 ^ (8 * i)) 17 17]
  congr 1
  refine sum1_congr 17 fun i hi => ?_
  rw [Int.mul_comm, ← sum1_mul]
  refine sum1_congr 17 fun j hj => ?_
  rw [Int.mul_comm]
/-- What a product is kept as. -/
structure Small (h : List Int) : Prop where
  len : h.length = 17
  bytes : ∀ i, 0 ≤ rd h i ∧ rd h i < 256
  top : rd h 16 ≤ 4
theorem p128 : (2 : Int) ^ (8 * 16) = 340282366920938463463374607431768211456 := by decide
theorem p136' : (2 : Int) ^ (8 * 17) = 87112285931760246646623899502532662132736 := by decide
theorem rd_out (xs : List Int) (i : Nat) (h : xs.length ≤ i) : rd xs i = 0 := by
  unfold rd
  rw [List.getD_eq_getElem?_getD, List.getElem?_eq_none h]
  rfl
theorem bytes_of17 {h : List Int} (hl : h.length = 17) (hb : ∀ i, i < 17 → 0 ≤ rd h i ∧ rd h i < 256) (i : Nat) : 0 ≤ rd h i ∧ rd h i < 256 := by
  by_cases hi : i < 17
  · exact hb i hi
  · rw [rd_out h i (by omega)]
    omega
theorem timesT_val (h r : List Int) (hh : ∀ i, 0 ≤ rd h i ∧ rd h i < 256) (hr : ∀ i, 0 ≤ rd r i ∧ rd r i < 256) : Small (timesT h r) ∧ ∃ o, valB (timesT h r) 17 = valB h 17 * valB r 17 - pP * o := by
  obtain ⟨o, ho⟩ := prod_val h r
  have hx : ∀ i, i < 17 → rd (xTo h r 17) i = sum1 (term1 h r i) 17 ∧ 0 ≤ rd (xTo h r 17) i ∧ rd (xTo h r 17) i ≤ 353736000 := fun i hi => by
    rw [rd_xTo, if_pos ⟨hi, hi⟩]
    obtain ⟨h1, h2, h3⟩ := accT_eq h r hh hr i 17 (by omega)
    exact ⟨h1, h2, by omega⟩
  have hxv : valB (xTo h r 17) 17 = sum1 (fun i => sum1 (term1 h r i) 17 * 2 ^ (8 * i)) 17 := by
    rw [valB_sum]
    exact sum1_congr 17 fun i hi => by rw [(hx i hi).1]
  rw [← hxv] at ho
  have hxl := xTo_length h r 17
  have hE : timesT h r = endT (carT (midT (carT (xTo h r 17, 0) 16)) 16) := rfl
  rw [hE, ho]
  clear hE hxv ho
  generalize xTo h r 17 = X at *
  obtain ⟨⟨c1, c2, c3⟩, c4, c5, c6⟩ := carT_val (X, 0) hxl (fun i hi => by have := (hx i hi).2; show 0 ≤ rd X i ∧ rd X i < _; omega) ⟨by show (0 : Int) ≤ 0; omega, by show (0 : Int) < _; omega⟩ 16 (by omega)
  have c3' := c3 (by omega)
  have cl := carT_length (X, 0) 16
  generalize carT (X, 0) 16 = C at *
  have x16 := hx 16 (by omega)
  have c16 : rd C.1 16 = rd X 16 := c5 16 (Nat.le_refl _)
  have hv17 : valB X 17 = valB X 16 + rd X 16 * 2 ^ (8 * 16) := rfl
  have c6' : valB C.1 16 + C.2 * 2 ^ (8 * 16) = 0 + valB X 16 := c6
  rw [p128] at c6' hv17
  obtain ⟨Y, hY⟩ : ∃ Y, Y = C.2 + rd X 16 := ⟨_, rfl⟩
  have hm : midT C = (C.1.set 16 (Y % 4), 5 * (Y / 4)) := by
    unfold midT
    rw [c16, m32_in' (C.2 + rd X 16) (by omega), ← hY, m32_in' _ (by omega)]
  have hYb : 0 ≤ Y ∧ Y < 370513216 := by omega
  rw [hm]
  have ml : (C.1.set 16 (Y % 4)).length = 17 := by rw [List.length_set, cl]; exact hxl
  have mlow : ∀ i, i < 16 → rd (C.1.set 16 (Y % 4)) i = rd C.1 i := fun i hi => by rw [rd_set', if_neg (by omega)]
  have mtop : rd (C.1.set 16 (Y % 4)) 16 = Y % 4 := by rw [rd_set', if_pos ⟨rfl, by rw [cl]; show 16 < X.length; omega⟩]
  have mv : valB (C.1.set 16 (Y % 4)) 16 = valB C.1 16 := valB_congr 16 mlow
  have cv := valB_in' C.1 16 c4
  rw [p128] at cv
  obtain ⟨⟨d1, d2, d3⟩, d4, d5, d6⟩ := carT_val (C.1.set 16 (Y % 4), 5 * (Y / 4)) ml (fun i hi => by
    show 0 ≤ rd (C.1.set 16 (Y % 4)) i ∧ rd (C.1.set 16 (Y % 4)) i < _
    by_cases h16 : i < 16
    · rw [mlow i h16]; have := c4 i h16; omega
    · obtain rfl : i = 16 := by omega
      rw [mtop]; omega) ⟨by show (0 : Int) ≤ 5 * (Y / 4); omega, by show 5 * (Y / 4) < _; omega⟩ 16 (by omega)
  have dl := carT_length (C.1.set 16 (Y % 4), 5 * (Y / 4)) 16
  generalize carT (C.1.set 16 (Y % 4), 5 * (Y / 4)) 16 = D at *
  have d16 : rd D.1 16 = Y % 4 := (d5 16 (Nat.le_refl _)).trans mtop
  have d6' : valB D.1 16 + D.2 * 2 ^ (8 * 16) = 5 * (Y / 4) + valB C.1 16 := by rw [d6]; show 5 * (Y / 4) + valB (C.1.set 16 (Y % 4)) 16 = _; rw [mv]
  rw [p128] at d6'
  have dv := valB_in' D.1 16 d4
  rw [p128] at dv
  have hD2 : 0 ≤ D.2 ∧ D.2 ≤ 1 := by omega
  have he : endT D = D.1.set 16 (Y % 4 + D.2) := by
    unfold endT
    rw [d16, m32_in' _ (by omega)]
  rw [he]
  have dl' : D.1.length = 17 := by rw [dl]; exact ml
  have elow : ∀ i, i < 16 → rd (D.1.set 16 (Y % 4 + D.2)) i = rd D.1 i := fun i hi => by rw [rd_set', if_neg (by omega)]
  have etop : rd (D.1.set 16 (Y % 4 + D.2)) 16 = Y % 4 + D.2 := by rw [rd_set', if_pos ⟨rfl, by omega⟩]
  have ev : valB (D.1.set 16 (Y % 4 + D.2)) 17 = valB D.1 16 + (Y % 4 + D.2) * 2 ^ (8 * 16) := by
    show valB (D.1.set 16 (Y % 4 + D.2)) 16 + rd (D.1.set 16 (Y % 4 + D.2)) 16 * 2 ^ (8 * 16) = _
    rw [valB_congr 16 elow, etop]
  have el : (D.1.set 16 (Y % 4 + D.2)).length = 17 := by rw [List.length_set]; exact dl'
  refine ⟨⟨el, bytes_of17 el fun i hi => ?_, by rw [etop]; omega⟩, o + Y / 4, ?_⟩
  · by_cases h16 : i < 16
    · rw [elow i h16]; exact d4 i h16
    · obtain rfl : i = 16 := by omega
      rw [etop]; omega
  · rw [ev, p128, Int.mul_add]
    have hpp : pP * (Y / 4) = 1361129467683753853853498429727072845819 * (Y / 4) := rfl
    rw [hpp]
    generalize pP * o = O
    generalize valB D.1 16 = VD at *
    generalize valB C.1 16 = VC at *
    generalize valB X 17 = V17 at *
    generalize valB X 16 = VX at *
    generalize rd X 16 = x at *
    generalize D.2 = d at *
    generalize C.2 = c at *
    omega
theorem plus1_val (h c : List Int) (hl : h.length = 17) (hh : ∀ i, 0 ≤ rd h i ∧ rd h i < 256) (hc : ∀ i, 0 ≤ rd c i ∧ rd c i < 256) :
    (∀ i, 0 ≤ rd (plus1 h c) i ∧ rd (plus1 h c) i < 256) ∧ ∃ u, 0 ≤ u ∧ valB (plus1 h c) 17 + u * 87112285931760246646623899502532662132736 = valB h 17 + valB c 17 := by
  obtain ⟨⟨h1, h2⟩, h4, h5, h6⟩ := plusS_val h c hl (fun i _ => by have := hh i; omega) (fun i _ => by have := hc i; omega) 17 (Nat.le_refl _)
  rw [p136'] at h6
  exact ⟨bytes_of17 ((plusS_length h c 17).trans hl) h4, (plusS h c 17).2, h1, h6⟩
theorem small_val {h : List Int} (hs : Small h) : 0 ≤ valB h 17 ∧ valB h 17 < 1701411834604692317316873037158841057280 := by
  have h1 := valB_in' h 16 (fun i _ => hs.bytes i)
  have h2 := hs.bytes 16
  have h3 := hs.top
  have e : valB h 17 = valB h 16 + rd h 16 * 2 ^ (8 * 16) := rfl
  rw [p128] at h1 e
  omega
theorem hTo_val (r bs : List Int) (hr : ∀ i, 0 ≤ rd r i ∧ rd r i < 256) (hb : ∀ i, 0 ≤ rd bs i ∧ rd bs i < 256) : ∀ n, Small (hTo r bs n) ∧ valB (hTo r bs n) 17 % pP = sumN (valB r 17) bs n
  | 0 => by
    have h0 : ∀ i, rd (List.replicate 17 (0 : Int)) i = 0 := rd_rep0 17
    refine ⟨⟨by simp [hTo], fun i => ?_, ?_⟩, ?_⟩
    · show 0 ≤ rd (List.replicate 17 (0 : Int)) i ∧ rd (List.replicate 17 (0 : Int)) i < 256
      rw [h0]; omega
    · show rd (List.replicate 17 (0 : Int)) 16 ≤ 4
      rw [h0]; omega
    · show valB (List.replicate 17 0) 17 % pP = 0
      decide
  | n + 1 => by
    obtain ⟨ih1, ih2⟩ := hTo_val r bs hr hb n
    have hys : ∀ i, 0 ≤ rd (bs.drop (16 * n)) i ∧ rd (bs.drop (16 * n)) i < 256 := fun i => by rw [rd_drop]; exact hb _
    have hbo := blockOf_ok _ hys
    have hbv := blockOf_val _ hys
    obtain ⟨hp1, u, hu, hp2⟩ := plus1_val (hTo r bs n) (blockOf (bs.drop (16 * n))) ih1.len ih1.bytes hbo
    have hpv := valB_in' (plus1 (hTo r bs n) (blockOf (bs.drop (16 * n)))) 17 (fun i _ => hp1 i)
    have hsv := small_val ih1
    rw [p136'] at hpv
    have hu0 : u = 0 := by omega
    subst hu0
    obtain ⟨ht1, o, ht2⟩ := timesT_val _ r hp1 hr
    have hE : hTo r bs (n + 1) = timesT (plus1 (hTo r bs n) (blockOf (bs.drop (16 * n)))) r := rfl
    have hS : sumN (valB r 17) bs (n + 1) = (sumN (valB r 17) bs n + valB (blockOf (bs.drop (16 * n))) 17) * valB r 17 % pP := rfl
    rw [hE, hS]
    refine ⟨ht1, ?_⟩
    rw [ht2, ← ih2]
    have hp3 : valB (plus1 (hTo r bs n) (blockOf (bs.drop (16 * n)))) 17 = valB (hTo r bs n) 17 + valB (blockOf (bs.drop (16 * n))) 17 := by omega
    rw [hp3]
    generalize valB (hTo r bs n) 17 = V at *
    generalize valB (blockOf (bs.drop (16 * n))) 17 = B at *
    generalize valB r 17 = R at *
    have hV := Int.emod_add_mul_ediv V pP
    have e : (V + B) * R - pP * o = (V % pP + B) * R + pP * (V / pP * R - o) := by
      generalize V % pP = a at *
      generalize V / pP = q at *
      rw [← hV]
      grind
    rw [e, Int.add_mul_emod_self_left]
theorem minusP_val : valB minusP 17 = 87112285931760246646623899502532662132736 - pP := by decide
theorem minusP_ok (i : Nat) : 0 ≤ rd minusP i ∧ rd minusP i < 256 := by
  refine bytes_of17 rfl (fun i hi => ?_) i
  have : i = 0 ∨ i = 1 ∨ i = 2 ∨ i = 3 ∨ i = 4 ∨ i = 5 ∨ i = 6 ∨ i = 7 ∨ i = 8 ∨ i = 9 ∨ i = 10 ∨ i = 11 ∨ i = 12 ∨ i = 13 ∨ i = 14 ∨ i = 15 ∨ i = 16 := by omega
  rcases this with rfl | rfl | rfl | rfl | rfl | rfl | rfl | rfl | rfl | rfl | rfl | rfl | rfl | rfl | rfl | rfl | rfl <;> decide
theorem finT_val (h : List Int) (hs : Small h) : (∀ i, 0 ≤ rd (finT h) i ∧ rd (finT h) i < 256) ∧ (finT h).length = 17 ∧ valB (finT h) 17 = valB h 17 % pP := by
  obtain ⟨hp1, u, hu, hp2⟩ := plus1_val h minusP hs.len hs.bytes minusP_ok
  have hsv := small_val hs
  have hpl : (plus1 h minusP).length = 17 := (plus1_length _ _).trans hs.len
  have hpv := valB_in' (plus1 h minusP) 16 (fun i _ => hp1 i)
  have e : valB (plus1 h minusP) 17 = valB (plus1 h minusP) 16 + rd (plus1 h minusP) 16 * 2 ^ (8 * 16) := rfl
  have ht := hp1 16
  rw [p128] at hpv e
  rw [minusP_val] at hp2
  have hpp : pP = 1361129467683753853853498429727072845819 := rfl
  unfold finT
  by_cases h0 : rd (plus1 h minusP) 16 / 128 = 0
  · rw [if_pos h0]
    refine ⟨hp1, hpl, ?_⟩
    generalize valB (plus1 h minusP) 17 = W at *
    generalize valB (plus1 h minusP) 16 = W' at *
    generalize rd (plus1 h minusP) 16 = x at *
    generalize valB h 17 = V at *
    have hu1 : u = 1 := by omega
    subst hu1
    have e2 : V = W + pP * 1 := by omega
    rw [e2, Int.add_mul_emod_self_left]
    exact (Int.emod_eq_of_lt (by omega) (by omega)).symm
  · rw [if_neg h0]
    refine ⟨hs.bytes, hs.len, ?_⟩
    generalize valB (plus1 h minusP) 17 = W at *
    generalize valB (plus1 h minusP) 16 = W' at *
    generalize rd (plus1 h minusP) 16 = x at *
    generalize valB h 17 = V at *
    have hu0 : u = 0 := by omega
    subst hu0
    exact (Int.emod_eq_of_lt (by omega) (by omega)).symm
theorem rd_outT (h : List Int) (i : Nat) : ∀ n, n ≤ 16 → rd (outT h n) i = if i < n then rd h i % 256 else 0
  | 0, _ => by
    rw [if_neg (by omega)]
    exact rd_rep0 _ _
  | n + 1, hn => by
    rw [outT_succ, rd_set', outT_length, rd_outT h i n (by omega)]
    by_cases h1 : n = i
    · subst h1
      rw [if_pos ⟨rfl, by omega⟩, if_pos (by omega)]
    · rw [if_neg (by omega)]
      by_cases h2 : i < n
      · rw [if_pos h2, if_pos (by omega)]
      · rw [if_neg h2, if_neg (by omega)]
/-- The reference's tag is the program's. -/
theorem tagT_eq (key bs : List Int) (hk : key.length = 32) (rk : ∀ i, 0 ≤ rd key i ∧ rd key i < 256) (rb : ∀ i, 0 ≤ rd bs i ∧ rd bs i < 256) : tagT key bs = polySum key bs := by
  obtain ⟨hpb, hpv⟩ := poly_num key bs hk rk rb
  have hrb := rbytes_in key hk rk
  obtain ⟨hs, hv⟩ := hTo_val (rbytes key) bs hrb rb ((bs.length + 15) / 16)
  obtain ⟨hf1, hf2, hf3⟩ := finT_val _ hs
  rw [hv] at hf3
  rw [← hf3] at hpv
  have hE : tagT key bs = outT (plus1 (finT (hTo (rbytes key) bs ((bs.length + 15) / 16))) (putTo (fun j => rd key (16 + j)) 16)) 16 := rfl
  rw [hE]
  have hFb : 0 ≤ valB (finT (hTo (rbytes key) bs ((bs.length + 15) / 16))) 17 ∧ valB (finT (hTo (rbytes key) bs ((bs.length + 15) / 16))) 17 < pP := by
    rw [hf3, ← hv]
    exact ⟨Int.emod_nonneg _ (by decide), Int.emod_lt_of_pos _ (by decide)⟩
  generalize finT (hTo (rbytes key) bs ((bs.length + 15) / 16)) = F at *
  have hKr : ∀ i, rd (putTo (fun j => rd key (16 + j)) 16) i = if i < 16 then rd key (16 + i) else 0 := fun i => rd_putTo _ _ _ (by omega)
  have hKb : ∀ i, 0 ≤ rd (putTo (fun j => rd key (16 + j)) 16) i ∧ rd (putTo (fun j => rd key (16 + j)) 16) i < 256 := fun i => by
    rw [hKr]
    split
    · exact rk _
    · omega
  have hKv : valB (putTo (fun j => rd key (16 + j)) 16) 17 = valB (key.drop 16) 16 := by
    have e : valB (putTo (fun j => rd key (16 + j)) 16) 17 = valB (putTo (fun j => rd key (16 + j)) 16) 16 + rd (putTo (fun j => rd key (16 + j)) 16) 16 * 2 ^ (8 * 16) := rfl
    rw [e, hKr, if_neg (by omega), valB_congr 16 (fun i hi => by rw [hKr, if_pos hi, rd_drop] : ∀ i, i < 16 → rd (putTo (fun j => rd key (16 + j)) 16) i = rd (key.drop 16) i)]
    simp
  have hKb2 := valB_in' (key.drop 16) 16 (fun i _ => by rw [rd_drop]; exact rk _)
  rw [p128] at hKb2
  obtain ⟨hq1, u, hu, hq2⟩ := plus1_val F _ hf2 hf1 hKb
  rw [hKv] at hq2
  generalize plus1 F (putTo (fun j => rd key (16 + j)) 16) = Q at *
  have hQv := valB_in' Q 16 (fun i _ => hq1 i)
  have e : valB Q 17 = valB Q 16 + rd Q 16 * 2 ^ (8 * 16) := rfl
  rw [p128] at hQv e
  have hQ17 := valB_in' Q 17 (fun i _ => hq1 i)
  rw [p136'] at hQ17
  have hpp : pP = 1361129467683753853853498429727072845819 := rfl
  have ho : ∀ i, i < 16 → rd (outT Q 16) i = rd Q i := fun i hi => by
    rw [rd_outT Q i 16 (Nat.le_refl _), if_pos hi]
    have := hq1 i
    omega
  have hob : ∀ i, 0 ≤ rd (outT Q 16) i ∧ rd (outT Q 16) i < 256 := fun i => by
    rw [rd_outT Q i 16 (Nat.le_refl _)]
    split <;> omega
  have hval : valB (outT Q 16) 16 = valB (polySum key bs) 16 := by
    rw [valB_congr 16 ho, hpv]
    generalize valB Q 17 = A at *
    generalize valB Q 16 = B at *
    generalize rd Q 16 = x at *
    generalize valB F 17 = V at *
    generalize valB (key.drop 16) 16 = K at *
    omega
  refine ext_rd (by rw [outT_length, polySum_length]) fun i hi => ?_
  rw [outT_length] at hi
  exact valB_inj _ _ hob hpb 16 hval i hi
end Go.Proofs.YtlikinglgegclaaDoor
/- What opening needs: bytes, what a seal opens to. -/
namespace Go.Proofs.YtlikinglgegclaaDoor
open Go.RowKit Go.Cour
theorem bytesOk_set {xs : List Int} (h : bytesOk xs) (i : Nat) (x : Int) (h0 : 0 ≤ x ∧ x < 256) : bytesOk (xs.set i x) := by
  intro j
  rw [rd_set']
  split
  · exact h0
  · exact h j
theorem bytesOk_zeros' (n : Nat) : bytesOk (List.replicate n 0) := by
  intro i
  unfold rd
  rw [List.getD_eq_getElem?_getD, List.getElem?_replicate]
  split <;> simp
theorem outS_ok (l h : Int) (key : List Int) : ∀ n, bytesOk (outS l h key n).1
  | 0 => by rw [outS_zero]; exact bytesOk_zeros' 16
  | n + 1 => by
    rw [outS_succ]
    exact bytesOk_set (outS_ok l h key n) _ _ ⟨Int.emod_nonneg _ (by decide), Int.emod_lt_of_pos _ (by decide)⟩
theorem tagOf_ok (key nonce ad b : List Int) : bytesOk (tagOf key nonce ad b) := outS_ok _ _ _ _
theorem bytesOk_drop {xs : List Int} (h : bytesOk xs) (n : Nat) : bytesOk (xs.drop n) := fun i => by rw [rd_drop]; exact h _
theorem bytesOk_take {xs : List Int} (h : bytesOk xs) (n : Nat) : bytesOk (xs.take n) := fun i => by
  by_cases hi : i < n
  · rw [rd_take _ _ _ hi]; exact h i
  · unfold rd; rw [List.getD_eq_getElem?_getD, List.getElem?_take, if_neg hi]; simp
theorem rd_slice {w : World} {A : Option Addr} {k : IntKind} {xs : List Int} (h : Rd w A k xs) (f : Nat) : Rd w (A.map (·.add f)) k (xs.drop f) := by
  rcases h with h | ⟨g, o, rfl, h⟩
  · exact .inl (by rw [h]; simp)
  · refine .inr ⟨g, o + f, by rw [Option.map_some, add_lit], fun i hi => ?_⟩
    rw [rd_drop, Nat.add_assoc]
    exact h _ (by rw [List.length_drop] at hi; omega)
/-- What a seal opens to; or why not (2: too short, 8: another tag). -/
def openOf (key nonce ad b : List Int) : List Int ⊕ Nat :=
  if b.length < 16 then .inr 2
  else if tagOf key nonce ad (b.take (b.length - 16)) = b.drop (b.length - 16) then .inl (xorStream key 1 nonce (b.take (b.length - 16)))
  else .inr 8
end Go.Proofs.YtlikinglgegclaaDoor
/- How long a seal is. -/
namespace Go.Proofs.YtlikinglgegclaaDoor
open Go.RowKit Go.Cour
theorem sealText_length (key nonce ad b : List Int) : (sealText key nonce ad b).length = b.length + 16 := by
  rw [sealText, List.length_append, xorStream_length, tagOf_length]
end Go.Proofs.YtlikinglgegclaaDoor
/- Bytes' or and xor. -/
namespace Go.Proofs.YtlikinglgegclaaDoor
open Go.RowKit Go.Cour
theorem bits_or_u8_nat (a b : Nat) (ha : a < 256) (hb : b < 256) : bits .or .u8 (a : Int) (b : Int) = ((a ||| b : Nat) : Int) := by
  have hx : a ||| b < 2 ^ 8 := Nat.or_lt_two_pow (by omega) (by omega)
  have h1 : (BitVec.ofInt 8 (a : Int)).toNat = a := by
    rw [BitVec.ofInt_natCast, BitVec.toNat_ofNat]; exact Nat.mod_eq_of_lt (by omega)
  have h2 : (BitVec.ofInt 8 (b : Int)).toNat = b := by
    rw [BitVec.ofInt_natCast, BitVec.toNat_ofNat]; exact Nat.mod_eq_of_lt (by omega)
  show IntKind.u8.wrap ((BitVec.ofInt 8 (a : Int) ||| BitVec.ofInt 8 (b : Int)).toNat : Int) = _
  rw [BitVec.toNat_or, h1, h2, IntKind.wrap_u8]
  omega
theorem bits_xor_u8_nat (a b : Nat) (ha : a < 256) (hb : b < 256) : bits .xor .u8 (a : Int) (b : Int) = ((a ^^^ b : Nat) : Int) := by
  have hx : a ^^^ b < 2 ^ 8 := Nat.xor_lt_two_pow (by omega) (by omega)
  have h1 : (BitVec.ofInt 8 (a : Int)).toNat = a := by
    rw [BitVec.ofInt_natCast, BitVec.toNat_ofNat]; exact Nat.mod_eq_of_lt (by omega)
  have h2 : (BitVec.ofInt 8 (b : Int)).toNat = b := by
    rw [BitVec.ofInt_natCast, BitVec.toNat_ofNat]; exact Nat.mod_eq_of_lt (by omega)
  show IntKind.u8.wrap ((BitVec.ofInt 8 (a : Int) ^^^ BitVec.ofInt 8 (b : Int)).toNat : Int) = _
  rw [BitVec.toNat_xor, h1, h2, IntKind.wrap_u8]
  omega
theorem xor_u8_bound (x y : Int) (hx : 0 ≤ x ∧ x < 256) (hy : 0 ≤ y ∧ y < 256) : 0 ≤ bits .xor .u8 x y ∧ bits .xor .u8 x y < 256 := by
  obtain ⟨a, rfl⟩ : ∃ a : Nat, x = (a : Int) := ⟨x.toNat, by omega⟩
  obtain ⟨b, rfl⟩ : ∃ b : Nat, y = (b : Int) := ⟨y.toNat, by omega⟩
  rw [bits_xor_u8_nat a b (by omega) (by omega)]
  have : a ^^^ b < 2 ^ 8 := Nat.xor_lt_two_pow (by omega) (by omega)
  omega
theorem xor_u8_zero (x y : Int) (hx : 0 ≤ x ∧ x < 256) (hy : 0 ≤ y ∧ y < 256) : bits .xor .u8 x y = 0 ↔ x = y := by
  obtain ⟨a, rfl⟩ : ∃ a : Nat, x = (a : Int) := ⟨x.toNat, by omega⟩
  obtain ⟨b, rfl⟩ : ∃ b : Nat, y = (b : Int) := ⟨y.toNat, by omega⟩
  rw [bits_xor_u8_nat a b (by omega) (by omega)]
  have h : a ^^^ b = 0 ↔ a = b := by
    constructor
    · intro h
      have h2 : a ^^^ (a ^^^ b) = a ^^^ 0 := by rw [h]
      rw [← Nat.xor_assoc, Nat.xor_self, Nat.zero_xor, Nat.xor_zero] at h2
      exact h2.symm
    · rintro rfl; exact Nat.xor_self _
  omega
theorem or_u8_zero (x y : Int) (hx : 0 ≤ x ∧ x < 256) (hy : 0 ≤ y ∧ y < 256) : (0 ≤ bits .or .u8 x y ∧ bits .or .u8 x y < 256) ∧ (bits .or .u8 x y = 0 ↔ x = 0 ∧ y = 0) := by
  obtain ⟨a, rfl⟩ : ∃ a : Nat, x = (a : Int) := ⟨x.toNat, by omega⟩
  obtain ⟨b, rfl⟩ : ∃ b : Nat, y = (b : Int) := ⟨y.toNat, by omega⟩
  rw [bits_or_u8_nat a b (by omega) (by omega)]
  have h1 : a ||| b < 2 ^ 8 := Nat.or_lt_two_pow (by omega) (by omega)
  have h : a ||| b = 0 ↔ a = 0 ∧ b = 0 := Nat.or_eq_zero_iff
  omega
end Go.Proofs.YtlikinglgegclaaDoor
/- What was sealed is opened as it was. -/
namespace Go.Proofs.YtlikinglgegclaaDoor
open Go.RowKit Go.Cour
theorem outTo_ok (s f : List Int) : ∀ n, bytesOk (outTo s f n)
  | 0 => bytesOk_zeros' 64
  | n + 1 => by
    unfold outTo
    rw [foldl_succ]
    exact bytesOk_set (outTo_ok s f n) _ _ ⟨Int.emod_nonneg _ (by decide), Int.emod_lt_of_pos _ (by decide)⟩
theorem block_ok (key : List Int) (c : Int) (nonce : List Int) : bytesOk (block key c nonce) := outTo_ok _ _ _
theorem rd_zeros (n i : Nat) : rd (List.replicate n 0) i = 0 := by
  unfold rd
  rw [List.getD_eq_getElem?_getD, List.getElem?_replicate]
  split <;> rfl
theorem rd_xorTo (key : List Int) (c : Int) (nonce xs : List Int) (i : Nat) (hi : i < xs.length) : ∀ n, n ≤ xs.length → rd (xorTo key c nonce xs n) i = if i < n then xorByte key c nonce xs i else 0
  | 0, _ => by
    rw [if_neg (by omega)]
    exact rd_zeros _ _
  | n + 1, hn => by
    rw [xorTo_succ, rd_set', xorTo_length, rd_xorTo key c nonce xs i hi n (by omega)]
    by_cases h : n = i
    · subst h
      rw [if_pos ⟨rfl, hi⟩, if_pos (by omega)]
    · rw [if_neg (fun h' => h h'.1)]
      by_cases h2 : i < n
      · rw [if_pos h2, if_pos (by omega)]
      · rw [if_neg h2, if_neg (by omega)]
theorem rd_xorStream (key : List Int) (c : Int) (nonce xs : List Int) (i : Nat) (hi : i < xs.length) : rd (xorStream key c nonce xs) i = xorByte key c nonce xs i := by
  rw [xorStream, rd_xorTo key c nonce xs i hi _ (Nat.le_refl _), if_pos hi]
theorem xorStream_ok (key : List Int) (c : Int) (nonce xs : List Int) (h : bytesOk xs) : bytesOk (xorStream key c nonce xs) := by
  intro i
  by_cases hi : i < xs.length
  · rw [rd_xorStream key c nonce xs i hi]
    exact xor_u8_bound _ _ (h i) (block_ok _ _ _ _)
  · unfold rd
    rw [List.getD_eq_getElem?_getD, List.getElem?_eq_none (by rw [xorStream_length]; omega)]
    simp
theorem xor_u8_twice (x y : Int) (hx : 0 ≤ x ∧ x < 256) (hy : 0 ≤ y ∧ y < 256) : bits .xor .u8 (bits .xor .u8 x y) y = x := by
  obtain ⟨a, rfl⟩ : ∃ a : Nat, x = (a : Int) := ⟨x.toNat, by omega⟩
  obtain ⟨b, rfl⟩ : ∃ b : Nat, y = (b : Int) := ⟨y.toNat, by omega⟩
  have h : a ^^^ b < 2 ^ 8 := Nat.xor_lt_two_pow (by omega) (by omega)
  rw [bits_xor_u8_nat a b (by omega) (by omega), bits_xor_u8_nat _ b (by omega) (by omega), Nat.xor_assoc, Nat.xor_self, Nat.xor_zero]
theorem xorStream_twice (key : List Int) (c : Int) (nonce xs : List Int) (h : bytesOk xs) : xorStream key c nonce (xorStream key c nonce xs) = xs := by
  refine ext_rd (by rw [xorStream_length, xorStream_length]) fun i hi => ?_
  rw [xorStream_length, xorStream_length] at hi
  rw [rd_xorStream _ _ _ _ _ (by rw [xorStream_length]; exact hi), xorByte, rd_xorStream key c nonce xs i hi, xorByte]
  exact xor_u8_twice _ _ (h i) (block_ok _ _ _ _)
theorem sealText_ok (key nonce ad b : List Int) (h : bytesOk b) : bytesOk (sealText key nonce ad b) := by
  intro i
  unfold sealText rd
  rw [List.getD_eq_getElem?_getD, List.getElem?_append]
  split
  · rw [← List.getD_eq_getElem?_getD]; exact xorStream_ok key 1 nonce b h i
  · rw [← List.getD_eq_getElem?_getD]; exact tagOf_ok _ _ _ _ _
theorem open_seal (key nonce ad b : List Int) (h : bytesOk b) : openOf key nonce ad (sealText key nonce ad b) = .inl b := by
  have hl := sealText_length key nonce ad b
  have hx := xorStream_length key 1 nonce b
  rw [openOf, if_neg (by omega), hl]
  have e : b.length + 16 - 16 = (xorStream key 1 nonce b).length := by omega
  rw [e, sealText, List.take_left, List.drop_left, if_pos rfl, xorStream_twice key 1 nonce b h]
end Go.Proofs.YtlikinglgegclaaDoor
/- The reference's XOR. -/
namespace Go.Proofs.YtlikinglgegclaaDoor
open Go.RowKit Go.Cour
theorem sizeU8X : (Tryd.prog.info? 5).map (·.size) = some 1 := by kernel_rfl
theorem zeroU8X : ((Tryd.prog.info? 5).bind (·.zero)).isSome = true := by kernel_rfl
def xor1To (key : List Int) (c : Int) (nonce xs : List Int) (i : Nat) : List Int := (List.range i).map (xorByte key c nonce xs)
theorem xor1To_succ (key : List Int) (c : Int) (nonce xs : List Int) (i : Nat) : xor1To key c nonce xs (i + 1) = xor1To key c nonce xs i ++ [xorByte key c nonce xs i] := by simp [xor1To, List.range_succ]
theorem xor1To_length (key : List Int) (c : Int) (nonce xs : List Int) (i : Nat) : (xor1To key c nonce xs i).length = i := by simp [xor1To]
theorem xor1To_all (key : List Int) (c : Int) (nonce xs : List Int) : xor1To key c nonce xs xs.length = xorStream key c nonce xs := by
  refine ext_rd (by rw [xor1To_length, xorStream_length]) fun i hi => ?_
  rw [xor1To_length] at hi
  rw [rd_xorStream _ _ _ _ _ hi]
  unfold rd xor1To
  rw [List.getD_eq_getElem?_getD, List.getElem?_map, List.getElem?_range hi]
  rfl
/-- What the blocks of a call hold. -/
structure XB (w wr : World) (g4 g6 g10 : Nat) (key nonce bl : List Int) : Prop where
  k : Blk wr g4 27 (ints .u8 key)
  n : Blk wr g6 91 (ints .u8 nonce)
  s : Blk wr g10 142 (ints .u8 bl)
  bel : Below w.heap.size w wr
theorem XB.below {w wr wx : World} {g4 g6 g10 : Nat} {key nonce bl : List Int} (h : XB w wr g4 g6 g10 key nonce bl) (hb : Below wr.heap.size wr wx) : XB w wx g4 g6 g10 key nonce bl :=
  ⟨h.k.belowAll hb, h.n.belowAll hb, h.s.belowAll hb, below_then h.bel h.bel.size hb⟩
theorem XB.drew {w wr : World} {g4 g6 g10 : Nat} {key nonce bl : List Int} (h : XB w wr g4 g6 g10 key nonce bl) : XB w wr.drew g4 g6 g10 key nonce bl := ⟨h.k.drew, h.n.drew, h.s.drew, below_drewN h.bel 1⟩
theorem XB.put {w wr wx : World} {g4 g6 g10 : Nat} {key nonce bl : List Int} (h : XB w wr g4 g6 g10 key nonce bl) (hb : Below wr.heap.size wr wx) (h4 : g4 ≠ g10) (h6 : g6 ≠ g10) (hw : w.heap.size ≤ g10) (bl' : List Int) :
    XB w (wx.setRow g10 (ints .u8 bl').toArray) g4 g6 g10 key nonce bl' :=
  ⟨(h.k.belowAll hb).setRowOther h4 _, (h.n.belowAll hb).setRowOther h6 _, (h.s.belowAll hb).setRow _, below_setRow (below_then h.bel h.bel.size hb) hw _⟩
theorem XB.grown {w wr wx : World} {g4 g6 g10 : Nat} {key nonce bl xs : List Int} {v : Value} (h : XB w wr g4 g6 g10 key nonce bl) (ho : Own wr w.heap.size 5 .u8 v xs) (hg : wr.grownBy wx v.ownBlock) : XB w wx g4 g6 g10 key nonce bl :=
  ⟨h.k.grown hg (fun he => ho.ne_blk h.k (by decide) he.symm), h.n.grown hg (fun he => ho.ne_blk h.n (by decide) he.symm), h.s.grown hg (fun he => ho.ne_blk h.s (by decide) he.symm), ho.grown_below h.bel hg h.bel.size (Nat.le_refl _)⟩
set_option maxHeartbeats 4000000 in
set_option maxRecDepth 100000 in
theorem xor1_calls (key nonce xs : List Int) (c : Int) (A : Option Addr) (m cap : Nat) (w : World) (hm : m = xs.length) (hk : key.length = 32) (hn : nonce.length = 12) (rk : bytesOk key) (rn : bytesOk nonce) (hc : 0 ≤ c ∧ c < 4294967296)
    (hr : Rd w A .u8 xs) (hl : xs.length ≤ 1000000) :
    Calls Tryd.prog 71 #[.agg (ints .u8 key).toArray, .int .u32 c, .agg (ints .u8 nonce).toArray, .slice A m cap] w fun e w' =>
      ∃ v, e = .returned v ∧ Own w' w.heap.size 5 .u8 v (xorStream key c nonce xs) ∧ Below w.heap.size w w' := by
  have HK := hid hk
  have HN := hid hn
  have HR := hid hr
  have HM := hid hm
  have hmb : m ≤ 1000000 := by omega
  clear hk hn hr hm hl
  go_enter Tryd.func71, Tryd.ntmps71
  go_wp2_with (first
    | (refine box_blk rfl 27 _ rfl _ rfl (ints .u8 key) rfl ?_; intro g4 w1 hg4 hb4 hB1 hs1)
    | (refine box_blk rfl 91 _ rfl _ rfl (ints .u8 nonce) rfl ?_; intro g6 w2 hg6 hb6 hB2 hs2)
    | (refine alloc_blk rfl 142 rfl _ rfl (ints .u8 (List.replicate 64 0)) (by kernel_rfl) ?_; intro g10 w3 hg10 hb10 hB3 hs3)
    | fail)
  have hz : Hd (g4 ≠ g10 ∧ g6 ≠ g10 ∧ w.heap.size ≤ g10) := hid (by omega)
  have hX : XB w w3 g4 g6 g10 key nonce (List.replicate 64 0) := ⟨(hb4.belowAll hB2).belowAll hB3, hb6.belowAll hB3, hb10, below_then (below_then hB1 hB1.size hB2) (by omega) hB3⟩
  clear hg4 hb4 hB1 hs1 hg6 hb6 hB2 hs2 hg10 hb10 hB3 hs3
  go_loopg [9, 11] (m + 1) (fun kq v9 v11 wr => ∃ i : Nat, i ≤ m ∧ v11 = .int .i64 i ∧ Hd (kq + i = m + 1) ∧ Own wr w.heap.size 5 .u8 v9 (xor1To key c nonce xs i) ∧ ∃ bl : List Int, Hd (bl.length = 64) ∧ Hd (i % 64 = 0 ∨ bl = block key (ctr c (i / 64)) nonce) ∧ XB w wr g4 g6 g10 key nonce bl)
  case atStart => exact ⟨0, by omega, rfl, hid (by omega), Own.nil _ _ _ _, _, hid (by simp), hid (.inl rfl), hX⟩
  case round =>
    clear hX
    obtain ⟨i, hi, rfl, hgq, ho, bl, hbl, hbe, hX⟩ := hrel
    by_cases hlt : i < m
    · have a1 : (i : Int) < m := by omega
      obtain ⟨q, r, hqr, hr64⟩ : ∃ q r : Nat, Hd (i = 64 * q + r) ∧ r < 64 := ⟨i / 64, i % 64, hid (by omega), by omega⟩
      have a2 : (i : Int).tmod 64 = (r : Int) := by
        have := hqr.out
        rw [Int.tmod_eq_emod_of_nonneg (by omega)]
        omega
      have a3 : (r : Int) < 64 := by omega
      have hlo : Hd ((xor1To key c nonce xs i).length = i) := hid (xor1To_length _ _ _ _ _)
      by_cases hr0 : r = 0
      · have a4 : IntKind.i64.wrap ((i : Int) / 64) = (q : Int) := by
          have := hqr.out
          rw [IntWalk.i64_in _ (by omega)]
          omega
        have a5 : ((r : Int) = 0) := by omega
        have hbk : Hd ((ints .u8 (block key (ctr c q) nonce)).length = 64) := hid (by simpa using block_length key (ctr c q) nonce)
        obtain ⟨nb, hnb⟩ : ∃ nb, Hd (nb = block key (ctr c q) nonce) := ⟨_, hid rfl⟩
        go_wp2_with (first
          | (refine load_blk rfl 27 _ rfl g4 rfl 27 _ hX.k 32 5 arr23 (by simpa using HK.out) info23 ?_)
          | (refine load_blk rfl 91 _ rfl g6 rfl 91 _ hX.n 12 5 arr24 (by simpa using HN.out) info24 ?_)
          | (go_at_call 89; refine (block1_calls key nonce (ctr c q) _ HK.out HN.out rk rn (ctr_bound c q)).mono ?_; rintro e wx ⟨rfl, hbx⟩; rw [← hnb.out])
          | (refine store_blk rfl 142 _ _ rfl g10 (ints .u8 nb) rfl rfl 142 _ (hX.s.belowAll hbx) 64 info44 (by rw [hnb.out]; exact hbk.out) (by simpa using hbl.out) (ints_one _ _) ?_)
          | fail)
        replace ho := ho.below hbx
        replace ho := ho.setRowOther (ho.ne_blk (hX.s.belowAll hbx) (by decide)) (ints .u8 nb).toArray
        replace hX := hX.put hbx hz.out.1 hz.out.2.1 hz.out.2.2 nb
        clear hbl hbe hbx hbk
        obtain ⟨wo, rfl⟩ : ∃ wo : World, wo = wr := ⟨_, rfl⟩
        clear hr0 a5 a4
        generalize wx.setRow g10 (ints .u8 nb).toArray = wr at ho hX ⊢
        have hbl : Hd (nb.length = 64) := hid (by rw [hnb.out]; exact block_length _ _ _)
        have hbx : Hd (xorByte key c nonce xs i = bits .xor .u8 (rd xs i) (rd nb r)) := hid (by
          have e1 : i / 64 = q := by have := hqr.out; omega
          have e2 : i % 64 = r := by have := hqr.out; omega
          rw [xorByte, e1, e2, hnb.out])
        obtain ⟨g, o, rfl⟩ := HR.out.at (by rw [← HM.out]; omega)
        obtain ⟨X, hXb⟩ : ∃ X, Hd (xorByte key c nonce xs i = X) := ⟨_, hid rfl⟩
        obtain ⟨XT, hXT⟩ : ∃ XT, Hd (xor1To key c nonce xs i = XT) := ⟨_, hid rfl⟩
        rw [hXT.out] at ho hlo
        clear a2
        have a2 : (i : Int).tmod 64 = (r : Int) := by
          have := hqr.out
          rw [Int.tmod_eq_emod_of_nonneg (by omega)]
          omega
        refine wp_region_factsU (ix := [[0], [1], [2], [3], [4], [5], [6], [7], [8], [9], [10], [11], [12]]) (S := fun w' => XB w w' g4 g6 g10 key nonce nb)
          (R := fun iO w1 w2 => if iO = 11 then w1.grownBy w2 u9.ownBlock else (Below w1.heap.size w1 w2))
          (U := fun iO w1 => match iO with
            | 11 => Own w1 w.heap.size 5 .u8 u9 XT
            | _ => True)
          (kill := fun jO => match jO with
            | 10 => some 11
            | _ => none)
          (p := fun jO vs w' => match jO with
            | 0 => vs 0 = u9
            | 1 => vs 1 = .slice (some ⟨g, o, none⟩) m cap
            | 2 => vs 2 = .int .i64 i
            | 3 => vs 3 = .pointer (some ⟨g, o + i, none⟩)
            | 4 => vs 4 = .int .u8 (rd xs i)
            | 5 => vs 5 = .int .i64 i
            | 6 => vs 6 = .int .i64 r
            | 7 => vs 7 = .pointer (some ⟨g10, r, none⟩)
            | 8 => vs 8 = .int .u8 (rd nb r)
            | 9 => vs 9 = .int .u8 X
            | 10 => ∃ g, vs 10 = .slice (some ⟨g, 0, none⟩) 1 1 ∧ Blk w' g 5 (ints .u8 [X])
            | 11 => Own w' w.heap.size 5 .u8 (vs 11) (xor1To key c nonce xs (i + 1))
            | 12 => Own w' w.heap.size 5 .u8 (vs 12) (xor1To key c nonce xs (i + 1))
            | _ => True)
          (ks := [])
          (hm := by kernel_rfl) (hc := by kernel_rfl) ?_ ?_ ?_ ?_ ?_ ?_
        · exact hX.drew
        · intro iO jO vs w1 w2 hij hw hkl hR h
          have hB : iO ≠ 11 → Below w1.heap.size w1 w2 := fun h11 => by rw [if_neg h11] at hR; exact hR
          match jO with
          | 0 | 1 | 2 | 3 | 4 | 5 | 6 | 7 | 8 | 9 => exact h
          | 10 => obtain ⟨g, h1, h2⟩ := h; exact ⟨g, h1, h2.belowAll (hB (by rintro rfl; exact hkl rfl))⟩
          | 11 => exact Own.below h (hB (by rintro rfl; exact hij rfl))
          | 12 => exact Own.below h (hB (by rintro rfl; exact absurd (Eq.trans (by kernel_rfl : true = _) hw) (by decide)))
          | nO + 13 => trivial
        · intro jO
          match jO with
          | 11 => exact ho.drew
          | 0 | 1 | 2 | 3 | 4 | 5 | 6 | 7 | 8 | 9 | 10 | 12 | nO + 13 => trivial
        · intro iO jO w1 w2 hij hw hR h
          have hB : iO ≠ 11 → Below w1.heap.size w1 w2 := fun h11 => by rw [if_neg h11] at hR; exact hR
          match jO with
          | 11 => exact Own.below h (hB (fun he => hij he))
          | 0 | 1 | 2 | 3 | 4 | 5 | 6 | 7 | 8 | 9 | 10 | 12 | nO + 13 => trivial
        · refine ⟨?_, ?_, ?_, ?_, ?_, ?_, ?_, ?_, ?_, ?_, ?_, ?_, ?_, trivial⟩
          · (intro vs w2 hS hU hd; simp [Region.binds, Fact.at] at hd; simp only [fill, List.take_succ_cons, List.take_zero, Act.put, List.setIfInBounds_toArray, List.set_cons_zero, List.set_cons_succ, Nat.reduceAdd])
            try simp only [hd]
            go_wp2_with fail
            exact ⟨rfl, rfl, hS, Below.refl _ _⟩
          · (intro vs w2 hS hU hd; simp [Region.binds, Fact.at] at hd; simp only [fill, List.take_succ_cons, List.take_zero, Act.put, List.setIfInBounds_toArray, List.set_cons_zero, List.set_cons_succ, Nat.reduceAdd])
            try simp only [hd]
            go_wp2_with fail
            exact ⟨rfl, rfl, hS, Below.refl _ _⟩
          · (intro vs w2 hS hU hd; simp [Region.binds, Fact.at] at hd; simp only [fill, List.take_succ_cons, List.take_zero, Act.put, List.setIfInBounds_toArray, List.set_cons_zero, List.set_cons_succ, Nat.reduceAdd])
            try simp only [hd]
            go_wp2_with fail
            exact ⟨rfl, rfl, hS, Below.refl _ _⟩
          · (intro vs w2 hS hU hd; simp [Region.binds, Fact.at] at hd; simp only [fill, List.take_succ_cons, List.take_zero, Act.put, List.setIfInBounds_toArray, List.set_cons_zero, List.set_cons_succ, Nat.reduceAdd])
            simp only [hd]
            go_wp2_with fail
            exact ⟨rfl, rfl, hS, Below.refl _ _⟩
          · (intro vs w2 hS hU hd; simp [Region.binds, Fact.at] at hd; simp only [fill, List.take_succ_cons, List.take_zero, Act.put, List.setIfInBounds_toArray, List.set_cons_zero, List.set_cons_succ, Nat.reduceAdd])
            have cx := (HR.out.below hS.bel).cellAt i (by rw [← HM.out]; omega)
            simp only [hd]
            go_wp2_with fail
            exact ⟨rfl, rfl, hS, Below.refl _ _⟩
          · (intro vs w2 hS hU hd; simp [Region.binds, Fact.at] at hd; simp only [fill, List.take_succ_cons, List.take_zero, Act.put, List.setIfInBounds_toArray, List.set_cons_zero, List.set_cons_succ, Nat.reduceAdd])
            try simp only [hd]
            go_wp2_with fail
            exact ⟨rfl, rfl, hS, Below.refl _ _⟩
          · (intro vs w2 hS hU hd; simp [Region.binds, Fact.at] at hd; simp only [fill, List.take_succ_cons, List.take_zero, Act.put, List.setIfInBounds_toArray, List.set_cons_zero, List.set_cons_succ, Nat.reduceAdd])
            simp only [hd]
            go_wp2_with fail
            exact ⟨rfl, rfl, hS, Below.refl _ _⟩
          · (intro vs w2 hS hU hd; simp [Region.binds, Fact.at] at hd; simp only [fill, List.take_succ_cons, List.take_zero, Act.put, List.setIfInBounds_toArray, List.set_cons_zero, List.set_cons_succ, Nat.reduceAdd])
            simp only [hd]
            go_wp2_with fail
            exact ⟨rfl, rfl, hS, Below.refl _ _⟩
          · (intro vs w2 hS hU hd; simp [Region.binds, Fact.at] at hd; simp only [fill, List.take_succ_cons, List.take_zero, Act.put, List.setIfInBounds_toArray, List.set_cons_zero, List.set_cons_succ, Nat.reduceAdd])
            have cs := hS.s.cellI r (by rw [hbl.out]; omega)
            simp only [hd]
            go_wp2_with fail
            exact ⟨rfl, rfl, hS, Below.refl _ _⟩
          · (intro vs w2 hS hU hd; simp [Region.binds, Fact.at] at hd; simp only [fill, List.take_succ_cons, List.take_zero, Act.put, List.setIfInBounds_toArray, List.set_cons_zero, List.set_cons_succ, Nat.reduceAdd])
            simp only [hd]
            go_wp2_with fail
            rw [← hXb.out, hbx.out]
            exact ⟨rfl, rfl, hS, Below.refl _ _⟩
          · (intro vs w2 hS hU hd; simp [Region.binds, Fact.at] at hd; simp only [fill, List.take_succ_cons, List.take_zero, Act.put, List.setIfInBounds_toArray, List.set_cons_zero, List.set_cons_succ, Nat.reduceAdd])
            simp only [hd]
            go_wp2_with (first
              | (refine literal_one rfl 24 5 _ rfl (.int .u8 X) rfl rfl undBytes sizeU8X zeroU8X ?_; intro g w3 hg9 hb9 hB9 hs9)
              | fail)
            exact ⟨rfl, ⟨g, rfl, hb9⟩, hS.below hB9, hB9⟩
          · (intro vs w2 hS hU hd; simp [Region.binds, Fact.at] at hd; simp only [fill, List.take_succ_cons, List.take_zero, Act.put, List.setIfInBounds_toArray, List.set_cons_zero, List.set_cons_succ, Nat.reduceAdd])
            obtain ⟨h0, ⟨gl, h1, h2⟩⟩ := hd
            have hU' : Own w2 w.heap.size 5 .u8 u9 XT := hU
            simp only [h0, h1]
            go_wp2_with (first
              | (at_builtin; refine append_list rfl (.tmp 29) (.tmp 39) 24 rfl w.heap.size 5 .u8 1 undBytes infoU8 u9 XT rfl hU' (some ⟨gl, 0, none⟩) 1 1 [X] rfl rfl (by simp) (Rd.ofBlk h2) (by have := hlo.out; simp; omega) (by have := hlo.out; simp; omega) hS.bel.size ?_; intro v9 w3 ho9 hg9; rw [← hXb.out, ← hXT.out, ← xor1To_succ] at ho9)
              | fail)
            exact ⟨rfl, ho9, hS.grown hU' hg9, hg9⟩
          · (intro vs w2 hS hU hd; simp [Region.binds, Fact.at] at hd; simp only [fill, List.take_succ_cons, List.take_zero, Act.put, List.setIfInBounds_toArray, List.set_cons_zero, List.set_cons_succ, Nat.reduceAdd])
            go_wp2_with fail
            exact ⟨rfl, hd.1, hS, Below.refl _ _⟩
        · intro vs wq hf hS
          have h15 : Own wq w.heap.size 5 .u8 (vs 12) (xor1To key c nonce xs (i + 1)) := hf 12 (by simp) rfl
          simp only [fill, Act.put, List.setIfInBounds_toArray, List.set_cons_zero, List.set_cons_succ, Nat.reduceAdd]
          clear hf
          go_wp2_with fail
          go_roundg (gk - 1)
          case measure => have := hgq.out; omega
          case rel =>
            refine ⟨i + 1, by omega, by go_num, hid (by have := hgq.out; omega), h15, nb, hbl, hid ?_, hS⟩
            have := hqr.out
            by_cases h63 : r = 63
            · exact .inl (by omega)
            · exact .inr (by rw [show (i + 1) / 64 = q by omega]; exact hnb.out)
      · have a5 : ¬ ((r : Int) = 0) := by omega
        replace hbe : Hd (bl = block key (ctr c q) nonce) := hid (by
          have := hqr.out
          rcases hbe.out with h | h
          · omega
          · rw [h, show i / 64 = q by omega])
        have hbx : Hd (xorByte key c nonce xs i = bits .xor .u8 (rd xs i) (rd bl r)) := hid (by
          have e1 : i / 64 = q := by have := hqr.out; omega
          have e2 : i % 64 = r := by have := hqr.out; omega
          rw [xorByte, e1, e2, hbe.out])
        go_wp2_with fail
        obtain ⟨g, o, rfl⟩ := HR.out.at (by rw [← HM.out]; omega)
        obtain ⟨X, hXb⟩ : ∃ X, Hd (xorByte key c nonce xs i = X) := ⟨_, hid rfl⟩
        obtain ⟨XT, hXT⟩ : ∃ XT, Hd (xor1To key c nonce xs i = XT) := ⟨_, hid rfl⟩
        rw [hXT.out] at ho hlo
        clear a2
        have a2 : (i : Int).tmod 64 = (r : Int) := by
          have := hqr.out
          rw [Int.tmod_eq_emod_of_nonneg (by omega)]
          omega
        refine wp_region_factsU (ix := [[0], [1], [2], [3], [4], [5], [6], [7], [8], [9], [10], [11], [12]]) (S := fun w' => XB w w' g4 g6 g10 key nonce bl)
          (R := fun iO w1 w2 => if iO = 11 then w1.grownBy w2 u9.ownBlock else (Below w1.heap.size w1 w2))
          (U := fun iO w1 => match iO with
            | 11 => Own w1 w.heap.size 5 .u8 u9 XT
            | _ => True)
          (kill := fun jO => match jO with
            | 10 => some 11
            | _ => none)
          (p := fun jO vs w' => match jO with
            | 0 => vs 0 = u9
            | 1 => vs 1 = .slice (some ⟨g, o, none⟩) m cap
            | 2 => vs 2 = .int .i64 i
            | 3 => vs 3 = .pointer (some ⟨g, o + i, none⟩)
            | 4 => vs 4 = .int .u8 (rd xs i)
            | 5 => vs 5 = .int .i64 i
            | 6 => vs 6 = .int .i64 r
            | 7 => vs 7 = .pointer (some ⟨g10, r, none⟩)
            | 8 => vs 8 = .int .u8 (rd bl r)
            | 9 => vs 9 = .int .u8 X
            | 10 => ∃ g, vs 10 = .slice (some ⟨g, 0, none⟩) 1 1 ∧ Blk w' g 5 (ints .u8 [X])
            | 11 => Own w' w.heap.size 5 .u8 (vs 11) (xor1To key c nonce xs (i + 1))
            | 12 => Own w' w.heap.size 5 .u8 (vs 12) (xor1To key c nonce xs (i + 1))
            | _ => True)
          (ks := [])
          (hm := by kernel_rfl) (hc := by kernel_rfl) ?_ ?_ ?_ ?_ ?_ ?_
        · exact hX.drew
        · intro iO jO vs w1 w2 hij hw hkl hR h
          have hB : iO ≠ 11 → Below w1.heap.size w1 w2 := fun h11 => by rw [if_neg h11] at hR; exact hR
          match jO with
          | 0 | 1 | 2 | 3 | 4 | 5 | 6 | 7 | 8 | 9 => exact h
          | 10 => obtain ⟨g, h1, h2⟩ := h; exact ⟨g, h1, h2.belowAll (hB (by rintro rfl; exact hkl rfl))⟩
          | 11 => exact Own.below h (hB (by rintro rfl; exact hij rfl))
          | 12 => exact Own.below h (hB (by rintro rfl; exact absurd (Eq.trans (by kernel_rfl : true = _) hw) (by decide)))
          | nO + 13 => trivial
        · intro jO
          match jO with
          | 11 => exact ho.drew
          | 0 | 1 | 2 | 3 | 4 | 5 | 6 | 7 | 8 | 9 | 10 | 12 | nO + 13 => trivial
        · intro iO jO w1 w2 hij hw hR h
          have hB : iO ≠ 11 → Below w1.heap.size w1 w2 := fun h11 => by rw [if_neg h11] at hR; exact hR
          match jO with
          | 11 => exact Own.below h (hB (fun he => hij he))
          | 0 | 1 | 2 | 3 | 4 | 5 | 6 | 7 | 8 | 9 | 10 | 12 | nO + 13 => trivial
        · refine ⟨?_, ?_, ?_, ?_, ?_, ?_, ?_, ?_, ?_, ?_, ?_, ?_, ?_, trivial⟩
          · (intro vs w2 hS hU hd; simp [Region.binds, Fact.at] at hd; simp only [fill, List.take_succ_cons, List.take_zero, Act.put, List.setIfInBounds_toArray, List.set_cons_zero, List.set_cons_succ, Nat.reduceAdd])
            try simp only [hd]
            go_wp2_with fail
            exact ⟨rfl, rfl, hS, Below.refl _ _⟩
          · (intro vs w2 hS hU hd; simp [Region.binds, Fact.at] at hd; simp only [fill, List.take_succ_cons, List.take_zero, Act.put, List.setIfInBounds_toArray, List.set_cons_zero, List.set_cons_succ, Nat.reduceAdd])
            try simp only [hd]
            go_wp2_with fail
            exact ⟨rfl, rfl, hS, Below.refl _ _⟩
          · (intro vs w2 hS hU hd; simp [Region.binds, Fact.at] at hd; simp only [fill, List.take_succ_cons, List.take_zero, Act.put, List.setIfInBounds_toArray, List.set_cons_zero, List.set_cons_succ, Nat.reduceAdd])
            try simp only [hd]
            go_wp2_with fail
            exact ⟨rfl, rfl, hS, Below.refl _ _⟩
          · (intro vs w2 hS hU hd; simp [Region.binds, Fact.at] at hd; simp only [fill, List.take_succ_cons, List.take_zero, Act.put, List.setIfInBounds_toArray, List.set_cons_zero, List.set_cons_succ, Nat.reduceAdd])
            simp only [hd]
            go_wp2_with fail
            exact ⟨rfl, rfl, hS, Below.refl _ _⟩
          · (intro vs w2 hS hU hd; simp [Region.binds, Fact.at] at hd; simp only [fill, List.take_succ_cons, List.take_zero, Act.put, List.setIfInBounds_toArray, List.set_cons_zero, List.set_cons_succ, Nat.reduceAdd])
            have cx := (HR.out.below hS.bel).cellAt i (by rw [← HM.out]; omega)
            simp only [hd]
            go_wp2_with fail
            exact ⟨rfl, rfl, hS, Below.refl _ _⟩
          · (intro vs w2 hS hU hd; simp [Region.binds, Fact.at] at hd; simp only [fill, List.take_succ_cons, List.take_zero, Act.put, List.setIfInBounds_toArray, List.set_cons_zero, List.set_cons_succ, Nat.reduceAdd])
            try simp only [hd]
            go_wp2_with fail
            exact ⟨rfl, rfl, hS, Below.refl _ _⟩
          · (intro vs w2 hS hU hd; simp [Region.binds, Fact.at] at hd; simp only [fill, List.take_succ_cons, List.take_zero, Act.put, List.setIfInBounds_toArray, List.set_cons_zero, List.set_cons_succ, Nat.reduceAdd])
            simp only [hd]
            go_wp2_with fail
            exact ⟨rfl, rfl, hS, Below.refl _ _⟩
          · (intro vs w2 hS hU hd; simp [Region.binds, Fact.at] at hd; simp only [fill, List.take_succ_cons, List.take_zero, Act.put, List.setIfInBounds_toArray, List.set_cons_zero, List.set_cons_succ, Nat.reduceAdd])
            simp only [hd]
            go_wp2_with fail
            exact ⟨rfl, rfl, hS, Below.refl _ _⟩
          · (intro vs w2 hS hU hd; simp [Region.binds, Fact.at] at hd; simp only [fill, List.take_succ_cons, List.take_zero, Act.put, List.setIfInBounds_toArray, List.set_cons_zero, List.set_cons_succ, Nat.reduceAdd])
            have cs := hS.s.cellI r (by rw [hbl.out]; omega)
            simp only [hd]
            go_wp2_with fail
            exact ⟨rfl, rfl, hS, Below.refl _ _⟩
          · (intro vs w2 hS hU hd; simp [Region.binds, Fact.at] at hd; simp only [fill, List.take_succ_cons, List.take_zero, Act.put, List.setIfInBounds_toArray, List.set_cons_zero, List.set_cons_succ, Nat.reduceAdd])
            simp only [hd]
            go_wp2_with fail
            rw [← hXb.out, hbx.out]
            exact ⟨rfl, rfl, hS, Below.refl _ _⟩
          · (intro vs w2 hS hU hd; simp [Region.binds, Fact.at] at hd; simp only [fill, List.take_succ_cons, List.take_zero, Act.put, List.setIfInBounds_toArray, List.set_cons_zero, List.set_cons_succ, Nat.reduceAdd])
            simp only [hd]
            go_wp2_with (first
              | (refine literal_one rfl 24 5 _ rfl (.int .u8 X) rfl rfl undBytes sizeU8X zeroU8X ?_; intro g w3 hg9 hb9 hB9 hs9)
              | fail)
            exact ⟨rfl, ⟨g, rfl, hb9⟩, hS.below hB9, hB9⟩
          · (intro vs w2 hS hU hd; simp [Region.binds, Fact.at] at hd; simp only [fill, List.take_succ_cons, List.take_zero, Act.put, List.setIfInBounds_toArray, List.set_cons_zero, List.set_cons_succ, Nat.reduceAdd])
            obtain ⟨h0, ⟨gl, h1, h2⟩⟩ := hd
            have hU' : Own w2 w.heap.size 5 .u8 u9 XT := hU
            simp only [h0, h1]
            go_wp2_with (first
              | (at_builtin; refine append_list rfl (.tmp 29) (.tmp 39) 24 rfl w.heap.size 5 .u8 1 undBytes infoU8 u9 XT rfl hU' (some ⟨gl, 0, none⟩) 1 1 [X] rfl rfl (by simp) (Rd.ofBlk h2) (by have := hlo.out; simp; omega) (by have := hlo.out; simp; omega) hS.bel.size ?_; intro v9 w3 ho9 hg9; rw [← hXb.out, ← hXT.out, ← xor1To_succ] at ho9)
              | fail)
            exact ⟨rfl, ho9, hS.grown hU' hg9, hg9⟩
          · (intro vs w2 hS hU hd; simp [Region.binds, Fact.at] at hd; simp only [fill, List.take_succ_cons, List.take_zero, Act.put, List.setIfInBounds_toArray, List.set_cons_zero, List.set_cons_succ, Nat.reduceAdd])
            go_wp2_with fail
            exact ⟨rfl, hd.1, hS, Below.refl _ _⟩
        · intro vs wq hf hS
          have h15 : Own wq w.heap.size 5 .u8 (vs 12) (xor1To key c nonce xs (i + 1)) := hf 12 (by simp) rfl
          simp only [fill, Act.put, List.setIfInBounds_toArray, List.set_cons_zero, List.set_cons_succ, Nat.reduceAdd]
          clear hf
          go_wp2_with fail
          go_roundg (gk - 1)
          case measure => have := hgq.out; omega
          case rel =>
            refine ⟨i + 1, by omega, by go_num, hid (by have := hgq.out; omega), h15, bl, hbl, hid ?_, hS⟩
            have := hqr.out
            by_cases h63 : r = 63
            · exact .inl (by omega)
            · exact .inr (by rw [show (i + 1) / 64 = q by omega]; exact hbe.out)
    · obtain rfl : i = m := by omega
      have a1 : ¬ ((i : Int) < i) := by omega
      go_wp2_with fail
      go_ret
      refine ⟨_, rfl, ?_, hX.bel⟩
      rw [← xor1To_all, ← HM.out]
      exact ho
end Go.Proofs.YtlikinglgegclaaDoor
