/- The tag's numbers: its sixteen bytes. -/
import Derived.Test.YtpmmmbilfblcpaaDoorMatF
namespace Go.Proofs.YtpmmmbilfblcpaaDoor
open Go.RowKit Go.Cour
theorem or_add2 (L t : Int) (s : Nat) (hL : 0 ≤ L ∧ L < 2 ^ s) (ht : 0 ≤ t) (hb : t * 2 ^ s < 18446744073709551616) (hs : (2 : Int) ^ s ≤ 18446744073709551616) : bits .or .u64 L (t * 2 ^ s) = L + t * 2 ^ s := by
  obtain ⟨a, rfl⟩ : ∃ a : Nat, L = (a : Int) := ⟨L.toNat, by omega⟩
  obtain ⟨u, rfl⟩ : ∃ u : Nat, t = (u : Int) := ⟨t.toNat, by omega⟩
  have ha : a < 2 ^ s := by exact_mod_cast hL.2
  have e : ((u : Int) * 2 ^ s) = ((2 ^ s * u : Nat) : Int) := by rw [Nat.mul_comm]; simp
  rw [e] at hb ⊢
  rw [bits_or_u64_nat a _ (by omega) (by omega), Nat.or_comm, ← Nat.two_pow_add_eq_or_of_lt ha]
  omega
theorem low_val (x : List Int) (h : ∀ i, i < 5 → 0 ≤ rd x i ∧ rd x i < 67108864) :
    (0 ≤ lowL x ∧ lowL x < 18446744073709551616) ∧ (0 ≤ lowH x ∧ lowH x < 18446744073709551616) ∧ lowL x + lowH x * 18446744073709551616 = val5 x % 340282366920938463463374607431768211456 := by
  have h0 := h 0 (by omega)
  have h1 := h 1 (by omega)
  have h2 := h 2 (by omega)
  have h3 := h 3 (by omega)
  have h4 := h 4 (by omega)
  unfold lowL lowH val5
  generalize rd x 0 = x0 at *
  generalize rd x 1 = x1 at *
  generalize rd x 2 = x2 at *
  generalize rd x 3 = x3 at *
  generalize rd x 4 = x4 at *
  clear h
  have p26 : (2 : Int) ^ 26 = 67108864 := by decide
  have p52 : (2 : Int) ^ 52 = 4503599627370496 := by decide
  have p14 : (2 : Int) ^ 14 = 16384 := by decide
  have p40 : (2 : Int) ^ 40 = 1099511627776 := by decide
  have e1 : bits .or .u64 x0 (u64 (x1 * 67108864)) = x0 + x1 * 67108864 := by
    rw [u64_in _ (by omega)]
    have := or_add2 x0 x1 26 (by rw [p26]; omega) (by omega) (by rw [p26]; omega) (by rw [p26]; omega)
    rw [p26] at this
    exact this
  have e2 : u64 (x2 * 4503599627370496) = x2 % 4096 * 4503599627370496 := by rw [u64_eq]; omega
  have e3 : bits .or .u64 (x0 + x1 * 67108864) (x2 % 4096 * 4503599627370496) = x0 + x1 * 67108864 + x2 % 4096 * 4503599627370496 := by
    have := or_add2 (x0 + x1 * 67108864) (x2 % 4096) 52 (by rw [p52]; omega) (by omega) (by rw [p52]; omega) (by rw [p52]; omega)
    rw [p52] at this
    exact this
  have f1 : bits .or .u64 (x2 / 4096) (u64 (x3 * 16384)) = x2 / 4096 + x3 * 16384 := by
    rw [u64_in _ (by omega)]
    have := or_add2 (x2 / 4096) x3 14 (by rw [p14]; omega) (by omega) (by rw [p14]; omega) (by rw [p14]; omega)
    rw [p14] at this
    exact this
  have f2 : u64 (x4 * 1099511627776) = x4 % 16777216 * 1099511627776 := by rw [u64_eq]; omega
  have f3 : bits .or .u64 (x2 / 4096 + x3 * 16384) (x4 % 16777216 * 1099511627776) = x2 / 4096 + x3 * 16384 + x4 % 16777216 * 1099511627776 := by
    have := or_add2 (x2 / 4096 + x3 * 16384) (x4 % 16777216) 40 (by rw [p40]; omega) (by omega) (by rw [p40]; omega) (by rw [p40]; omega)
    rw [p40] at this
    exact this
  rw [e1, e2, e3, f1, f2, f3]
  refine ⟨by omega, by omega, by omega⟩
/-- A number's first bytes. -/
def byteSum (y : Int) : Nat → Int
  | 0 => 0
  | n + 1 => byteSum y n + y / 2 ^ (8 * n) % 256 * 2 ^ (8 * n)
theorem byteSum_val (y : Int) (hy : 0 ≤ y) : ∀ n, byteSum y n = y % 2 ^ (8 * n)
  | 0 => by
    show (0 : Int) = y % 2 ^ 0
    rw [Int.pow_zero, Int.emod_one]
  | n + 1 => by
    unfold byteSum
    rw [byteSum_val y hy n]
    have e : (2 : Int) ^ (8 * (n + 1)) = 2 ^ (8 * n) * 256 := by rw [show 8 * (n + 1) = 8 * n + 8 by omega, Int.pow_add]; rfl
    rw [e]
    obtain ⟨m, rfl⟩ : ∃ m : Nat, y = (m : Int) := ⟨y.toNat, by omega⟩
    have hp : (2 : Int) ^ (8 * n) = ((2 ^ (8 * n) : Nat) : Int) := by simp
    rw [hp]
    generalize (2 : Nat) ^ (8 * n) = p
    have h1 := Nat.mod_mul (x := m) (a := p) (b := 256)
    have h2 : ((m % (p * 256) : Nat) : Int) = ((m % p + p * (m / p % 256) : Nat) : Int) := by rw [h1]
    rw [Int.natCast_add, Int.natCast_mul] at h2
    simp only [Int.natCast_emod, Int.natCast_ediv, Int.natCast_mul] at h2
    have h3 : ((256 : Nat) : Int) = 256 := rfl
    rw [h3] at h2
    rw [h2, Int.mul_comm (p : Int)]
/-- Both halves' first bytes. -/
def halfSum (l h : Int) : Nat → Int
  | 0 => 0
  | n + 1 => halfSum l h n + halfOf l h n / 2 ^ (8 * (n % 8)) % 256 * 2 ^ (8 * n)
theorem halfSum_low (l h : Int) : ∀ n, n ≤ 8 → halfSum l h n = byteSum l n
  | 0, _ => rfl
  | n + 1, hn => by
    unfold halfSum byteSum
    rw [halfSum_low l h n (by omega), halfOf, if_neg (by omega), show n % 8 = n by omega]
theorem halfSum_high (l h : Int) : ∀ m, m ≤ 8 → halfSum l h (8 + m) = byteSum l 8 + byteSum h m * 18446744073709551616
  | 0, _ => by rw [Nat.add_zero, halfSum_low l h 8 (by omega)]; simp [byteSum]
  | m + 1, hm => by
    rw [← Nat.add_assoc]
    unfold halfSum byteSum
    rw [halfSum_high l h m (by omega), halfOf, if_pos (by omega), show (8 + m) % 8 = m by omega, show 8 * (8 + m) = 8 * m + 64 by omega, Int.pow_add]
    have e : (2 : Int) ^ 64 = 18446744073709551616 := by decide
    rw [e, Int.add_mul]
    simp only [byteSum, Int.mul_assoc]
    omega
theorem halfSum_val (l h : Int) (hl : 0 ≤ l ∧ l < 18446744073709551616) (hh : 0 ≤ h ∧ h < 18446744073709551616) : halfSum l h 16 = l + h * 18446744073709551616 := by
  have e : (2 : Int) ^ (8 * 8) = 18446744073709551616 := by decide
  have := halfSum_high l h 8 (by omega)
  rw [byteSum_val l hl.1 8, byteSum_val h hh.1 8, e, Int.emod_eq_of_lt hl.1 hl.2, Int.emod_eq_of_lt hh.1 hh.2] at this
  exact this
theorem valB_set (xs : List Int) (m : Nat) (v : Int) : ∀ n, n ≤ m → valB (xs.set m v) n = valB xs n
  | 0, _ => rfl
  | n + 1, h => by
    unfold valB
    rw [valB_set xs m v n (by omega), rd_set', if_neg (by omega)]
theorem and255 (x : Int) (h0 : 0 ≤ x) (h1 : x < 18446744073709551616) : bits .and .u64 x 255 = x % 256 :=
  bits_mask .u64 64 (by decide) (fun n h0 h1 => by rw [IntKind.wrap_u64]; omega) 8 (by decide) x h0 (by simpa using h1)
theorem outS_val (l h : Int) (key : List Int) (hl : 0 ≤ l ∧ l < 18446744073709551616) (hh : 0 ≤ h ∧ h < 18446744073709551616) (rk : ∀ i, 0 ≤ rd key i ∧ rd key i < 256) : ∀ n, n ≤ 16 →
    (0 ≤ (outS l h key n).2 ∧ (outS l h key n).2 ≤ 1) ∧ (∀ i, 0 ≤ rd (outS l h key n).1 i ∧ rd (outS l h key n).1 i < 256) ∧
      valB (outS l h key n).1 n + (outS l h key n).2 * 2 ^ (8 * n) = halfSum l h n + valB (key.drop 16) n
  | 0, _ => by
    rw [outS_zero]
    exact ⟨by decide, fun i => by rw [rd_rep0]; omega, by simp [valB, halfSum]⟩
  | n + 1, hn => by
    obtain ⟨h1, h2, h3⟩ := outS_val l h key hl hh rk n (by omega)
    have hlen := outS_length l h key n
    rw [outS_succ]
    generalize outS l h key n = s at *
    have hy : 0 ≤ halfOf l h n / 2 ^ (8 * (n % 8)) ∧ halfOf l h n / 2 ^ (8 * (n % 8)) < 18446744073709551616 := by
      have hp : (0 : Int) < 2 ^ (8 * (n % 8)) := Int.pow_pos (by decide)
      have h0 : 0 ≤ halfOf l h n ∧ halfOf l h n < 18446744073709551616 := by unfold halfOf; split <;> assumption
      refine ⟨Int.ediv_nonneg h0.1 (by omega), ?_⟩
      have := Int.ediv_le_self (2 ^ (8 * (n % 8))) h0.1
      omega
    have hk := rk (16 + n)
    obtain ⟨y, hyy⟩ : ∃ y, y = halfOf l h n / 2 ^ (8 * (n % 8)) % 256 := ⟨_, rfl⟩
    have hyb : 0 ≤ y ∧ y < 256 := by rw [hyy]; exact ⟨Int.emod_nonneg _ (by decide), Int.emod_lt_of_pos _ (by decide)⟩
    have ht : u64 (u64 (bits .and .u64 (halfOf l h n / 2 ^ (8 * (n % 8))) 255 + u64 (rd key (16 + n))) + s.2) = y + rd key (16 + n) + s.2 := by
      rw [and255 _ hy.1 hy.2, ← hyy, u64_in (rd key (16 + n)) (by omega), u64_in (y + rd key (16 + n)) (by omega), u64_in _ (by omega)]
    have hs : ostep l h key s n = (s.1.set n ((y + rd key (16 + n) + s.2) % 256), (y + rd key (16 + n) + s.2) / 256) := by unfold ostep; rw [ht]
    rw [hs]
    refine ⟨by show 0 ≤ (y + rd key (16 + n) + s.2) / 256 ∧ (y + rd key (16 + n) + s.2) / 256 ≤ 1; omega, fun i => ?_, ?_⟩
    · show 0 ≤ rd (s.1.set n _) i ∧ rd (s.1.set n _) i < 256
      rw [rd_set']
      split
      · exact ⟨Int.emod_nonneg _ (by decide), Int.emod_lt_of_pos _ (by decide)⟩
      · exact h2 i
    · show valB (s.1.set n ((y + rd key (16 + n) + s.2) % 256)) (n + 1) + (y + rd key (16 + n) + s.2) / 256 * 2 ^ (8 * (n + 1)) = _
      have e : (2 : Int) ^ (8 * (n + 1)) = 2 ^ (8 * n) * 256 := by rw [show 8 * (n + 1) = 8 * n + 8 by omega, Int.pow_add]; rfl
      have ev : valB (s.1.set n ((y + rd key (16 + n) + s.2) % 256)) (n + 1) = valB s.1 n + (y + rd key (16 + n) + s.2) % 256 * 2 ^ (8 * n) := by
        show valB (s.1.set n ((y + rd key (16 + n) + s.2) % 256)) n + rd (s.1.set n ((y + rd key (16 + n) + s.2) % 256)) n * 2 ^ (8 * n) = _
        rw [valB_set _ _ _ n (Nat.le_refl _), rd_set', if_pos ⟨rfl, by omega⟩]
      have eh : halfSum l h (n + 1) = halfSum l h n + y * 2 ^ (8 * n) := by rw [hyy]; rfl
      have ek : valB (key.drop 16) (n + 1) = valB (key.drop 16) n + rd key (16 + n) * 2 ^ (8 * n) := by
        show valB (key.drop 16) n + rd (key.drop 16) n * 2 ^ (8 * n) = _
        rw [rd_drop]
      rw [e, ev, eh, ek]
      generalize (2 : Int) ^ (8 * n) = p at *
      have hd := Int.emod_add_mul_ediv (y + rd key (16 + n) + s.2) 256
      generalize (y + rd key (16 + n) + s.2) % 256 = q at *
      generalize (y + rd key (16 + n) + s.2) / 256 = r at *
      grind
theorem bits_and_u8_nat (a b : Nat) (ha : a < 256) (hb : b < 256) : bits .and .u8 (a : Int) (b : Int) = ((a &&& b : Nat) : Int) := by
  have hx : a &&& b < 2 ^ 8 := Nat.and_lt_two_pow _ (by omega)
  have h1 : (BitVec.ofInt 8 (a : Int)).toNat = a := by
    rw [BitVec.ofInt_natCast, BitVec.toNat_ofNat]; exact Nat.mod_eq_of_lt (by omega)
  have h2 : (BitVec.ofInt 8 (b : Int)).toNat = b := by
    rw [BitVec.ofInt_natCast, BitVec.toNat_ofNat]; exact Nat.mod_eq_of_lt (by omega)
  show IntKind.u8.wrap ((BitVec.ofInt 8 (a : Int) &&& BitVec.ofInt 8 (b : Int)).toNat : Int) = _
  rw [BitVec.toNat_and, h1, h2, IntKind.wrap_u8]
  omega
theorem and_u8_in (x : Int) (m : Nat) (hx : 0 ≤ x ∧ x < 256) (hm : m < 256) : 0 ≤ bits .and .u8 x (m : Int) ∧ bits .and .u8 x (m : Int) < 256 := by
  obtain ⟨a, rfl⟩ : ∃ a : Nat, x = (a : Int) := ⟨x.toNat, by omega⟩
  rw [bits_and_u8_nat a m (by omega) hm]
  have : a &&& m < 2 ^ 8 := Nat.and_lt_two_pow _ (by omega)
  omega
theorem set_in {xs : List Int} (h : ∀ i, 0 ≤ rd xs i ∧ rd xs i < 256) (i : Nat) (x : Int) (h0 : 0 ≤ x ∧ x < 256) (j : Nat) : 0 ≤ rd (xs.set i x) j ∧ rd (xs.set i x) j < 256 := by
  rw [rd_set']
  split
  · exact h0
  · exact h j
theorem clampA_in (s : List Int) (h : ∀ i, 0 ≤ rd s i ∧ rd s i < 256) : ∀ n, ∀ i, 0 ≤ rd (clampA s n) i ∧ rd (clampA s n) i < 256
  | 0 => h
  | n + 1 => by
    rw [clampA_succ]
    exact set_in (clampA_in s h n) _ _ (and_u8_in _ 15 (clampA_in s h n _) (by decide))
theorem clampB_in (s : List Int) (h : ∀ i, 0 ≤ rd s i ∧ rd s i < 256) : ∀ n, ∀ i, 0 ≤ rd (clampB s n) i ∧ rd (clampB s n) i < 256
  | 0 => h
  | n + 1 => by
    rw [clampB_succ]
    exact set_in (clampB_in s h n) _ _ (and_u8_in _ 252 (clampB_in s h n _) (by decide))
theorem rbytes_in (key : List Int) (hk : key.length = 32) (rk : ∀ i, 0 ≤ rd key i ∧ rd key i < 256) : ∀ i, 0 ≤ rd (rbytes key) i ∧ rd (rbytes key) i < 256 := by
  refine clampB_in _ (clampA_in _ (fun i => ?_) 4) 3
  have hl : (key.take 16).length = 16 := by rw [List.length_take]; omega
  rw [rd_app, hl]
  split
  · rename_i hi; rw [rd_take _ _ _ hi]; exact rk i
  · have : rd [0] (i - 16) = 0 := by
      unfold rd
      cases i - 16 <;> rfl
    rw [this]
    omega
theorem rbytes_16 (key : List Int) (hk : key.length = 32) : rd (rbytes key) 16 = 0 := by
  have hl : (key.take 16).length = 16 := by rw [List.length_take]; omega
  have ha : ∀ (s : List Int) (n : Nat), n ≤ 4 → rd (clampA s n) 16 = rd s 16 := fun s n => by
    induction n with
    | zero => intro _; rfl
    | succ n ih => intro hn; rw [clampA_succ, rd_set', if_neg (by omega), ih (by omega)]
  have hb : ∀ (s : List Int) (n : Nat), n ≤ 3 → rd (clampB s n) 16 = rd s 16 := fun s n => by
    induction n with
    | zero => intro _; rfl
    | succ n ih => intro hn; rw [clampB_succ, rd_set', if_neg (by omega), ih (by omega)]
  unfold rbytes
  rw [hb _ 3 (by omega), ha _ 4 (by omega), rd_app, hl, if_neg (by omega)]
  rfl
/-- The tag, as a number: the sum below the modulus, its lowest 128 bits, the key's second half. -/
theorem poly_num (key bs : List Int) (hk : key.length = 32) (rk : ∀ i, 0 ≤ rd key i ∧ rd key i < 256) (rb : ∀ i, 0 ≤ rd bs i ∧ rd bs i < 256) :
    (∀ i, 0 ≤ rd (polySum key bs) i ∧ rd (polySum key bs) i < 256) ∧
      valB (polySum key bs) 16 = (sumN (valB (rbytes key) 17) bs ((bs.length + 15) / 16) % 340282366920938463463374607431768211456 + valB (key.drop 16) 16) % 340282366920938463463374607431768211456 := by
  have hrb := rbytes_in key hk rk
  have hrv : valB (rbytes key) 17 < 680564733841876926926749214863536422912 := by
    have h1 := valB_in (rbytes key) hrb 16
    have e : (2 : Int) ^ (8 * 16) = 340282366920938463463374607431768211456 := by decide
    rw [e] at h1
    have e2 : valB (rbytes key) 17 = valB (rbytes key) 16 + rd (rbytes key) 16 * 2 ^ (8 * 16) := rfl
    rw [e2, rbytes_16 key hk]
    omega
  obtain ⟨hn, hv⟩ := sumTo_val (parts (rbytes key)) bs (partsTo_length _ _) (parts_low _ hrb hrv) rb ((bs.length + 15) / 16)
  rw [parts_val _ hrb] at hv
  have hn' : Near (sumOf (parts (rbytes key)) bs) := hn
  have hv' : val5 (sumOf (parts (rbytes key)) bs) % pP = sumN (valB (rbytes key) 17) bs ((bs.length + 15) / 16) := hv
  obtain ⟨hx, hxb⟩ := lowA_val _ hn'
  obtain ⟨hL, hH, hLH⟩ := low_val _ hxb
  obtain ⟨ho, hob, hov⟩ := outS_val _ _ key hL hH rk 16 (Nat.le_refl _)
  rw [halfSum_val _ _ hL hH, hLH, hx, hv'] at hov
  have e : (2 : Int) ^ (8 * 16) = 340282366920938463463374607431768211456 := by decide
  rw [e] at hov
  refine ⟨hob, ?_⟩
  have hvb := valB_in _ hob 16
  rw [e] at hvb
  show valB (outS _ _ key 16).1 16 = _
  generalize valB (outS _ _ key 16).1 16 = W at *
  generalize (outS _ _ key 16).2 = O at *
  generalize sumN (valB (rbytes key) 17) bs ((bs.length + 15) / 16) % 340282366920938463463374607431768211456 = A at *
  generalize valB (key.drop 16) 16 = K at *
  rw [← hov, Int.add_mul_emod_self_right]
  exact (Int.emod_eq_of_lt hvb.1 hvb.2).symm
end Go.Proofs.YtpmmmbilfblcpaaDoor
