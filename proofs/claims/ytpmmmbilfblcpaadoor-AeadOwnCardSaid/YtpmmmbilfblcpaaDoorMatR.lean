/- The reference's tag is the program's. -/
import Derived.Test.YtpmmmbilfblcpaaDoorRefG
namespace Go.Proofs.YtpmmmbilfblcpaaDoor
open Go.RowKit Go.Cour
def sum1 (f : Nat → Int) : Nat → Int
  | 0 => 0
  | n + 1 => sum1 f n + f n
theorem sum1_congr {f g : Nat → Int} : ∀ n, (∀ i, i < n → f i = g i) → sum1 f n = sum1 g n
  | 0, _ => rfl
  | n + 1, h => by
    unfold sum1
    rw [sum1_congr n (fun i hi => h i (by omega)), h n (by omega)]
theorem sum1_add (f g : Nat → Int) : ∀ n, sum1 (fun i => f i + g i) n = sum1 f n + sum1 g n
  | 0 => rfl
  | n + 1 => by
    unfold sum1
    rw [sum1_add f g n]
    omega
theorem sum1_mul (c : Int) (f : Nat → Int) : ∀ n, sum1 (fun i => c * f i) n = c * sum1 f n
  | 0 => by simp [sum1]
  | n + 1 => by
    unfold sum1
    rw [sum1_mul c f n, Int.mul_add]
theorem sum1_split (f : Nat → Int) (a : Nat) : ∀ b, sum1 f (a + b) = sum1 f a + sum1 (fun k => f (a + k)) b
  | 0 => by simp [sum1]
  | b + 1 => by
    have e1 : sum1 f (a + (b + 1)) = sum1 f (a + b) + f (a + b) := rfl
    have e2 : sum1 (fun k => f (a + k)) (b + 1) = sum1 (fun k => f (a + k)) b + f (a + b) := rfl
    rw [e1, e2, sum1_split f a b]
    omega
theorem sum1_zero : ∀ n, sum1 (fun _ => 0) n = 0
  | 0 => rfl
  | n + 1 => by unfold sum1; rw [sum1_zero n]; rfl
theorem sum1_swap (f : Nat → Nat → Int) (n : Nat) : ∀ m, sum1 (fun i => sum1 (fun j => f i j) n) m = sum1 (fun j => sum1 (fun i => f i j) m) n
  | 0 => by
    show 0 = sum1 (fun _ => 0) n
    exact (sum1_zero n).symm
  | m + 1 => by
    have e : sum1 (fun i => sum1 (fun j => f i j) n) (m + 1) = sum1 (fun i => sum1 (fun j => f i j) n) m + sum1 (fun j => f m j) n := rfl
    rw [e, sum1_swap f n m, ← sum1_add]
    rfl
theorem valB_sum (b : List Int) : ∀ n, valB b n = sum1 (fun i => rd b i * 2 ^ (8 * i)) n
  | 0 => rfl
  | n + 1 => by
    unfold valB sum1
    rw [valB_sum b n]
theorem valB_congr {a b : List Int} (n : Nat) (h : ∀ i, i < n → rd a i = rd b i) : valB a n = valB b n := by
  rw [valB_sum, valB_sum]
  exact sum1_congr n fun i hi => by rw [h i hi]
theorem valB_in' (b : List Int) : ∀ n, (∀ i, i < n → 0 ≤ rd b i ∧ rd b i < 256) → 0 ≤ valB b n ∧ valB b n < 2 ^ (8 * n)
  | 0, _ => by simp [valB]
  | n + 1, h => by
    have h1 := valB_in' b n (fun i hi => h i (by omega))
    have h2 := h n (by omega)
    unfold valB
    have e : (2 : Int) ^ (8 * (n + 1)) = 2 ^ (8 * n) * 256 := by rw [show 8 * (n + 1) = 8 * n + 8 by omega, Int.pow_add]; rfl
    rw [e]
    generalize (2 : Int) ^ (8 * n) = p at *
    generalize valB b n = V at *
    generalize rd b n = x at *
    have hp : 0 < p := by omega
    have h3 : 0 ≤ x * p := Int.mul_nonneg h2.1 (by omega)
    have h4 : x * p ≤ 255 * p := Int.mul_le_mul_of_nonneg_right (by omega) (by omega)
    omega
theorem m32_in' (x : Int) (h : 0 ≤ x ∧ x < 4294967296) : m32 x = x := Int.emod_eq_of_lt h.1 h.2
theorem p8_succ (n : Nat) : (2 : Int) ^ (8 * (n + 1)) = 2 ^ (8 * n) * 256 := by rw [show 8 * (n + 1) = 8 * n + 8 by omega, Int.pow_add]; rfl
theorem carT_val (s : List Int × Int) (hl : s.1.length = 17) (h : ∀ i, i < 17 → 0 ≤ rd s.1 i ∧ rd s.1 i < 2147483648) (hu : 0 ≤ s.2 ∧ s.2 < 2147483648) : ∀ n, n ≤ 17 →
    (0 ≤ (carT s n).2 ∧ (carT s n).2 < 2147483648 ∧ (0 < n → (carT s n).2 < 16777216)) ∧ (∀ i, i < n → 0 ≤ rd (carT s n).1 i ∧ rd (carT s n).1 i < 256) ∧ (∀ i, n ≤ i → rd (carT s n).1 i = rd s.1 i) ∧
      valB (carT s n).1 n + (carT s n).2 * 2 ^ (8 * n) = s.2 + valB s.1 n
  | 0, _ => ⟨⟨hu.1, hu.2, fun h => by omega⟩, fun i hi => by omega, fun i _ => rfl, by
      show valB s.1 0 + s.2 * 2 ^ (8 * 0) = _
      simp [valB]⟩
  | n + 1, hn => by
    obtain ⟨⟨h1, h2, h3⟩, h4, h5, h6⟩ := carT_val s hl h hu n (by omega)
    have hlc := carT_length s n
    rw [carT_succ]
    have h7 := h5 n (Nat.le_refl _)
    have h8 := h n (by omega)
    rw [← h7] at h8
    have hv : valB s.1 (n + 1) = valB s.1 n + rd (carT s n).1 n * 2 ^ (8 * n) := by rw [h7]; rfl
    generalize carT s n = C at *
    have hY : m32 (C.2 + rd C.1 n) = C.2 + rd C.1 n := m32_in' _ (by omega)
    obtain ⟨Y, hYe⟩ : ∃ Y, Y = C.2 + rd C.1 n := ⟨_, rfl⟩
    have hc : cstep C n = (C.1.set n (Y % 256), Y / 256) := by unfold cstep; rw [hY, hYe]
    rw [hc]
    refine ⟨⟨by show 0 ≤ Y / 256; omega, by show Y / 256 < _; omega, fun _ => by show Y / 256 < _; omega⟩, fun i hi => ?_, fun i hi => ?_, ?_⟩
    · show 0 ≤ rd (C.1.set n (Y % 256)) i ∧ rd (C.1.set n (Y % 256)) i < 256
      rw [rd_set']
      split
      · omega
      · exact h4 i (by omega)
    · show rd (C.1.set n (Y % 256)) i = _
      rw [rd_set', if_neg (by omega)]
      exact h5 i (by omega)
    · show valB (C.1.set n (Y % 256)) (n + 1) + Y / 256 * 2 ^ (8 * (n + 1)) = _
      have e1 : valB (C.1.set n (Y % 256)) (n + 1) = valB C.1 n + Y % 256 * 2 ^ (8 * n) := by
        show valB (C.1.set n (Y % 256)) n + rd (C.1.set n (Y % 256)) n * 2 ^ (8 * n) = _
        rw [valB_set _ _ _ n (Nat.le_refl _), rd_set', if_pos ⟨rfl, by omega⟩]
      rw [e1, p8_succ, hv]
      have hd := Int.emod_add_mul_ediv Y 256
      generalize (2 : Int) ^ (8 * n) = p at *
      generalize Y % 256 = q at *
      generalize Y / 256 = r at *
      grind
theorem plusS_val (h c : List Int) (hl : h.length = 17) (hh : ∀ i, i < 17 → 0 ≤ rd h i ∧ rd h i < 1073741824) (hc : ∀ i, i < 17 → 0 ≤ rd c i ∧ rd c i < 1073741824) : ∀ n, n ≤ 17 →
    (0 ≤ (plusS h c n).2 ∧ (plusS h c n).2 < 16777216) ∧ (∀ i, i < n → 0 ≤ rd (plusS h c n).1 i ∧ rd (plusS h c n).1 i < 256) ∧ (∀ i, n ≤ i → rd (plusS h c n).1 i = rd h i) ∧
      valB (plusS h c n).1 n + (plusS h c n).2 * 2 ^ (8 * n) = valB h n + valB c n
  | 0, _ => ⟨⟨by show (0 : Int) ≤ 0; omega, by show (0 : Int) < _; omega⟩, fun i hi => by omega, fun i _ => rfl, by
      show valB h 0 + 0 * 2 ^ (8 * 0) = _
      simp [valB]⟩
  | n + 1, hn => by
    obtain ⟨⟨h1, h2⟩, h4, h5, h6⟩ := plusS_val h c hl hh hc n (by omega)
    have hlc := plusS_length h c n
    rw [plusS_succ]
    have h7 := h5 n (Nat.le_refl _)
    have h8 := hh n (by omega)
    have h9 := hc n (by omega)
    rw [← h7] at h8
    have hv : valB h (n + 1) = valB h n + rd (plusS h c n).1 n * 2 ^ (8 * n) := by rw [h7]; rfl
    have hv2 : valB c (n + 1) = valB c n + rd c n * 2 ^ (8 * n) := rfl
    generalize plusS h c n = C at *
    have hY : m32 (m32 (C.2 + rd C.1 n) + rd c n) = C.2 + rd C.1 n + rd c n := by rw [m32_in' (C.2 + rd C.1 n) (by omega), m32_in' _ (by omega)]
    obtain ⟨Y, hYe⟩ : ∃ Y, Y = C.2 + rd C.1 n + rd c n := ⟨_, rfl⟩
    have hc : pstep c C n = (C.1.set n (Y % 256), Y / 256) := by unfold pstep; rw [hY, hYe]
    rw [hc]
    refine ⟨⟨by show 0 ≤ Y / 256; omega, by show Y / 256 < _; omega⟩, fun i hi => ?_, fun i hi => ?_, ?_⟩
    · show 0 ≤ rd (C.1.set n (Y % 256)) i ∧ rd (C.1.set n (Y % 256)) i < 256
      rw [rd_set']
      split
      · omega
      · exact h4 i (by omega)
    · show rd (C.1.set n (Y % 256)) i = _
      rw [rd_set', if_neg (by omega)]
      exact h5 i (by omega)
    · show valB (C.1.set n (Y % 256)) (n + 1) + Y / 256 * 2 ^ (8 * (n + 1)) = _
      have e1 : valB (C.1.set n (Y % 256)) (n + 1) = valB C.1 n + Y % 256 * 2 ^ (8 * n) := by
        show valB (C.1.set n (Y % 256)) n + rd (C.1.set n (Y % 256)) n * 2 ^ (8 * n) = _
        rw [valB_set _ _ _ n (Nat.le_refl _), rd_set', if_pos ⟨rfl, by omega⟩]
      rw [e1, p8_succ, hv, hv2]
      have hd := Int.emod_add_mul_ediv Y 256
      generalize (2 : Int) ^ (8 * n) = p at *
      generalize Y % 256 = q at *
      generalize Y / 256 = r at *
      grind
/-- A product's term, as a number. -/
def term1 (h r : List Int) (i j : Nat) : Int := if j ≤ i then rd h j * rd r (i - j) else 320 * (rd h j * rd r (i + 17 - j))
theorem byte_mul (a b : Int) (ha : 0 ≤ a ∧ a < 256) (hb : 0 ≤ b ∧ b < 256) : 0 ≤ a * b ∧ a * b ≤ 65025 := by
  have h1 := Int.mul_nonneg ha.1 hb.1
  have h2 : a * b ≤ 255 * b := Int.mul_le_mul_of_nonneg_right (by omega) hb.1
  omega
theorem termT_eq (h r : List Int) (hh : ∀ i, 0 ≤ rd h i ∧ rd h i < 256) (hr : ∀ i, 0 ≤ rd r i ∧ rd r i < 256) (i j : Nat) : termT h r i j = term1 h r i j ∧ 0 ≤ term1 h r i j ∧ term1 h r i j ≤ 20808000 := by
  unfold termT term1
  by_cases hle : j ≤ i
  · rw [if_pos hle, if_pos hle]
    have := byte_mul _ _ (hh j) (hr (i - j))
    exact ⟨m32_in' _ (by omega), by omega, by omega⟩
  · rw [if_neg hle, if_neg hle]
    have h1 := byte_mul _ _ (hh j) (hr (i + 17 - j))
    have h2 := hh j
    rw [m32_in' (rd h j * 320) (by omega)]
    have e : rd h j * 320 * rd r (i + 17 - j) = 320 * (rd h j * rd r (i + 17 - j)) := by
      rw [Int.mul_comm (rd h j) 320, Int.mul_assoc]
    rw [e]
    exact ⟨m32_in' _ (by omega), by omega, by omega⟩
theorem accT_eq (h r : List Int) (hh : ∀ i, 0 ≤ rd h i ∧ rd h i < 256) (hr : ∀ i, 0 ≤ rd r i ∧ rd r i < 256) (i : Nat) : ∀ n, n ≤ 17 → accT h r i n = sum1 (term1 h r i) n ∧ 0 ≤ accT h r i n ∧ accT h r i n ≤ 20808000 * (n : Int)
  | 0, _ => ⟨rfl, by show (0 : Int) ≤ 0; omega, by show (0 : Int) ≤ _; omega⟩
  | n + 1, hn => by
    obtain ⟨h1, h2, h3⟩ := accT_eq h r hh hr i n (by omega)
    obtain ⟨h4, h5, h6⟩ := termT_eq h r hh hr i n
    unfold accT sum1
    rw [h4, h1] at *
    rw [m32_in' _ (by omega)]
    exact ⟨rfl, by omega, by omega⟩
theorem p136 : (2 : Int) ^ (8 * 17) = 64 * pP + 320 := by decide
/-- A row of the product: one byte times the other number, but for a multiple of the modulus. -/
theorem row_val (h r : List Int) (j : Nat) (hj : j ≤ 17) :
    rd h j * 2 ^ (8 * j) * valB r 17 = sum1 (fun i => term1 h r i j * 2 ^ (8 * i)) 17 + pP * (64 * sum1 (fun i => rd h j * rd r (17 - j + i) * 2 ^ (8 * i)) j) := by
  obtain ⟨d, hd⟩ : ∃ d, d = 17 - j := ⟨_, rfl⟩
  have hjd : 17 = j + d := by omega
  have hdj : 17 = d + j := by omega
  have e1 : sum1 (fun i => term1 h r i j * 2 ^ (8 * i)) 17 = sum1 (fun i => term1 h r i j * 2 ^ (8 * i)) j + sum1 (fun k => term1 h r (j + k) j * 2 ^ (8 * (j + k))) d := by
    have := sum1_split (fun i => term1 h r i j * 2 ^ (8 * i)) j d
    rw [← hjd] at this
    exact this
  have e2 : valB r 17 = sum1 (fun k => rd r k * 2 ^ (8 * k)) d + sum1 (fun i => rd r (d + i) * 2 ^ (8 * (d + i))) j := by
    have := sum1_split (fun k => rd r k * 2 ^ (8 * k)) d j
    rw [← hdj] at this
    rw [valB_sum]
    exact this
  have e3 : sum1 (fun k => term1 h r (j + k) j * 2 ^ (8 * (j + k))) d = rd h j * 2 ^ (8 * j) * sum1 (fun k => rd r k * 2 ^ (8 * k)) d := by
    rw [← sum1_mul]
    refine sum1_congr d fun k hk => ?_
    unfold term1
    rw [if_pos (by omega), show j + k - j = k by omega, Nat.mul_add, Int.pow_add]
    grind
  have e4 : sum1 (fun i => term1 h r i j * 2 ^ (8 * i)) j = 320 * sum1 (fun i => rd h j * rd r (d + i) * 2 ^ (8 * i)) j := by
    rw [← sum1_mul]
    refine sum1_congr j fun i hi => ?_
    unfold term1
    rw [if_neg (by omega), show i + 17 - j = d + i by omega]
    grind
  have e5 : rd h j * 2 ^ (8 * j) * sum1 (fun i => rd r (d + i) * 2 ^ (8 * (d + i))) j = (64 * pP + 320) * sum1 (fun i => rd h j * rd r (d + i) * 2 ^ (8 * i)) j := by
    rw [← sum1_mul, ← sum1_mul, ← p136]
    refine sum1_congr j fun i hi => ?_
    have e6 : (2 : Int) ^ (8 * 17) * 2 ^ (8 * i) = 2 ^ (8 * j) * 2 ^ (8 * (d + i)) := by
      rw [← Int.pow_add, ← Int.pow_add]
      congr 1
      omega
    grind
  rw [e1, e2, Int.mul_add, e3, e4, e5, ← hd]
  generalize sum1 (fun i => rd h j * rd r (d + i) * 2 ^ (8 * i)) j = X
  generalize rd h j * 2 ^ (8 * j) * sum1 (fun k => rd r k * 2 ^ (8 * k)) d = Y
  grind
theorem prod_val (h r : List Int) : ∃ o, valB h 17 * valB r 17 = sum1 (fun i => sum1 (term1 h r i) 17 * 2 ^ (8 * i)) 17 + pP * o := by
  refine ⟨sum1 (fun j => 64 * sum1 (fun i => rd h j * rd r (17 - j + i) * 2 ^ (8 * i)) j) 17, ?_⟩
  rw [← sum1_mul]
  have e1 : valB h 17 * valB r 17 = sum1 (fun j => rd h j * 2 ^ (8 * j) * valB r 17) 17 := by
    rw [valB_sum h 17, Int.mul_comm, ← sum1_mul]
    refine sum1_congr 17 fun i hi => ?_
    rw [Int.mul_comm]
  rw [e1, sum1_congr 17 (fun j hj => row_val h r j (by omega)), sum1_add, ← sum1_swap (fun i j => term1 h r i j * 2 ^ (8 * i)) 17 17]
  congr 1
  refine sum1_congr 17 fun i hi => ?_
  rw [Int.mul_comm, ← sum1_mul]
  refine sum1_congr 17 fun j hj => ?_
  rw [Int.mul_comm]
/-- What a product is kept as. -/
structure Small (h : List Int) : Prop where
  len : h.length = 17
  bytes : ∀ i, 0 ≤ rd h i ∧ rd h i < 256
  top : rd h 16 ≤ 4
theorem p128 : (2 : Int) ^ (8 * 16) = 340282366920938463463374607431768211456 := by decide
theorem p136' : (2 : Int) ^ (8 * 17) = 87112285931760246646623899502532662132736 := by decide
theorem rd_out (xs : List Int) (i : Nat) (h : xs.length ≤ i) : rd xs i = 0 := by
  unfold rd
  rw [List.getD_eq_getElem?_getD, List.getElem?_eq_none h]
  rfl
theorem bytes_of17 {h : List Int} (hl : h.length = 17) (hb : ∀ i, i < 17 → 0 ≤ rd h i ∧ rd h i < 256) (i : Nat) : 0 ≤ rd h i ∧ rd h i < 256 := by
  by_cases hi : i < 17
  · exact hb i hi
  · rw [rd_out h i (by omega)]
    omega
theorem timesT_val (h r : List Int) (hh : ∀ i, 0 ≤ rd h i ∧ rd h i < 256) (hr : ∀ i, 0 ≤ rd r i ∧ rd r i < 256) : Small (timesT h r) ∧ ∃ o, valB (timesT h r) 17 = valB h 17 * valB r 17 - pP * o := by
  obtain ⟨o, ho⟩ := prod_val h r
  have hx : ∀ i, i < 17 → rd (xTo h r 17) i = sum1 (term1 h r i) 17 ∧ 0 ≤ rd (xTo h r 17) i ∧ rd (xTo h r 17) i ≤ 353736000 := fun i hi => by
    rw [rd_xTo, if_pos ⟨hi, hi⟩]
    obtain ⟨h1, h2, h3⟩ := accT_eq h r hh hr i 17 (by omega)
    exact ⟨h1, h2, by omega⟩
  have hxv : valB (xTo h r 17) 17 = sum1 (fun i => sum1 (term1 h r i) 17 * 2 ^ (8 * i)) 17 := by
    rw [valB_sum]
    exact sum1_congr 17 fun i hi => by rw [(hx i hi).1]
  rw [← hxv] at ho
  have hxl := xTo_length h r 17
  have hE : timesT h r = endT (carT (midT (carT (xTo h r 17, 0) 16)) 16) := rfl
  rw [hE, ho]
  clear hE hxv ho
  generalize xTo h r 17 = X at *
  obtain ⟨⟨c1, c2, c3⟩, c4, c5, c6⟩ := carT_val (X, 0) hxl (fun i hi => by have := (hx i hi).2; show 0 ≤ rd X i ∧ rd X i < _; omega) ⟨by show (0 : Int) ≤ 0; omega, by show (0 : Int) < _; omega⟩ 16 (by omega)
  have c3' := c3 (by omega)
  have cl := carT_length (X, 0) 16
  generalize carT (X, 0) 16 = C at *
  have x16 := hx 16 (by omega)
  have c16 : rd C.1 16 = rd X 16 := c5 16 (Nat.le_refl _)
  have hv17 : valB X 17 = valB X 16 + rd X 16 * 2 ^ (8 * 16) := rfl
  have c6' : valB C.1 16 + C.2 * 2 ^ (8 * 16) = 0 + valB X 16 := c6
  rw [p128] at c6' hv17
  obtain ⟨Y, hY⟩ : ∃ Y, Y = C.2 + rd X 16 := ⟨_, rfl⟩
  have hm : midT C = (C.1.set 16 (Y % 4), 5 * (Y / 4)) := by
    unfold midT
    rw [c16, m32_in' (C.2 + rd X 16) (by omega), ← hY, m32_in' _ (by omega)]
  have hYb : 0 ≤ Y ∧ Y < 370513216 := by omega
  rw [hm]
  have ml : (C.1.set 16 (Y % 4)).length = 17 := by rw [List.length_set, cl]; exact hxl
  have mlow : ∀ i, i < 16 → rd (C.1.set 16 (Y % 4)) i = rd C.1 i := fun i hi => by rw [rd_set', if_neg (by omega)]
  have mtop : rd (C.1.set 16 (Y % 4)) 16 = Y % 4 := by rw [rd_set', if_pos ⟨rfl, by rw [cl]; show 16 < X.length; omega⟩]
  have mv : valB (C.1.set 16 (Y % 4)) 16 = valB C.1 16 := valB_congr 16 mlow
  have cv := valB_in' C.1 16 c4
  rw [p128] at cv
  obtain ⟨⟨d1, d2, d3⟩, d4, d5, d6⟩ := carT_val (C.1.set 16 (Y % 4), 5 * (Y / 4)) ml (fun i hi => by
    show 0 ≤ rd (C.1.set 16 (Y % 4)) i ∧ rd (C.1.set 16 (Y % 4)) i < _
    by_cases h16 : i < 16
    · rw [mlow i h16]; have := c4 i h16; omega
    · obtain rfl : i = 16 := by omega
      rw [mtop]; omega) ⟨by show (0 : Int) ≤ 5 * (Y / 4); omega, by show 5 * (Y / 4) < _; omega⟩ 16 (by omega)
  have dl := carT_length (C.1.set 16 (Y % 4), 5 * (Y / 4)) 16
  generalize carT (C.1.set 16 (Y % 4), 5 * (Y / 4)) 16 = D at *
  have d16 : rd D.1 16 = Y % 4 := (d5 16 (Nat.le_refl _)).trans mtop
  have d6' : valB D.1 16 + D.2 * 2 ^ (8 * 16) = 5 * (Y / 4) + valB C.1 16 := by rw [d6]; show 5 * (Y / 4) + valB (C.1.set 16 (Y % 4)) 16 = _; rw [mv]
  rw [p128] at d6'
  have dv := valB_in' D.1 16 d4
  rw [p128] at dv
  have hD2 : 0 ≤ D.2 ∧ D.2 ≤ 1 := by omega
  have he : endT D = D.1.set 16 (Y % 4 + D.2) := by
    unfold endT
    rw [d16, m32_in' _ (by omega)]
  rw [he]
  have dl' : D.1.length = 17 := by rw [dl]; exact ml
  have elow : ∀ i, i < 16 → rd (D.1.set 16 (Y % 4 + D.2)) i = rd D.1 i := fun i hi => by rw [rd_set', if_neg (by omega)]
  have etop : rd (D.1.set 16 (Y % 4 + D.2)) 16 = Y % 4 + D.2 := by rw [rd_set', if_pos ⟨rfl, by omega⟩]
  have ev : valB (D.1.set 16 (Y % 4 + D.2)) 17 = valB D.1 16 + (Y % 4 + D.2) * 2 ^ (8 * 16) := by
    show valB (D.1.set 16 (Y % 4 + D.2)) 16 + rd (D.1.set 16 (Y % 4 + D.2)) 16 * 2 ^ (8 * 16) = _
    rw [valB_congr 16 elow, etop]
  have el : (D.1.set 16 (Y % 4 + D.2)).length = 17 := by rw [List.length_set]; exact dl'
  refine ⟨⟨el, bytes_of17 el fun i hi => ?_, by rw [etop]; omega⟩, o + Y / 4, ?_⟩
  · by_cases h16 : i < 16
    · rw [elow i h16]; exact d4 i h16
    · obtain rfl : i = 16 := by omega
      rw [etop]; omega
  · rw [ev, p128, Int.mul_add]
    have hpp : pP * (Y / 4) = 1361129467683753853853498429727072845819 * (Y / 4) := rfl
    rw [hpp]
    generalize pP * o = O
    generalize valB D.1 16 = VD at *
    generalize valB C.1 16 = VC at *
    generalize valB X 17 = V17 at *
    generalize valB X 16 = VX at *
    generalize rd X 16 = x at *
    generalize D.2 = d at *
    generalize C.2 = c at *
    omega
theorem plus1_val (h c : List Int) (hl : h.length = 17) (hh : ∀ i, 0 ≤ rd h i ∧ rd h i < 256) (hc : ∀ i, 0 ≤ rd c i ∧ rd c i < 256) :
    (∀ i, 0 ≤ rd (plus1 h c) i ∧ rd (plus1 h c) i < 256) ∧ ∃ u, 0 ≤ u ∧ valB (plus1 h c) 17 + u * 87112285931760246646623899502532662132736 = valB h 17 + valB c 17 := by
  obtain ⟨⟨h1, h2⟩, h4, h5, h6⟩ := plusS_val h c hl (fun i _ => by have := hh i; omega) (fun i _ => by have := hc i; omega) 17 (Nat.le_refl _)
  rw [p136'] at h6
  exact ⟨bytes_of17 ((plusS_length h c 17).trans hl) h4, (plusS h c 17).2, h1, h6⟩
theorem small_val {h : List Int} (hs : Small h) : 0 ≤ valB h 17 ∧ valB h 17 < 1701411834604692317316873037158841057280 := by
  have h1 := valB_in' h 16 (fun i _ => hs.bytes i)
  have h2 := hs.bytes 16
  have h3 := hs.top
  have e : valB h 17 = valB h 16 + rd h 16 * 2 ^ (8 * 16) := rfl
  rw [p128] at h1 e
  omega
theorem hTo_val (r bs : List Int) (hr : ∀ i, 0 ≤ rd r i ∧ rd r i < 256) (hb : ∀ i, 0 ≤ rd bs i ∧ rd bs i < 256) : ∀ n, Small (hTo r bs n) ∧ valB (hTo r bs n) 17 % pP = sumN (valB r 17) bs n
  | 0 => by
    have h0 : ∀ i, rd (List.replicate 17 (0 : Int)) i = 0 := rd_rep0 17
    refine ⟨⟨by simp [hTo], fun i => ?_, ?_⟩, ?_⟩
    · show 0 ≤ rd (List.replicate 17 (0 : Int)) i ∧ rd (List.replicate 17 (0 : Int)) i < 256
      rw [h0]; omega
    · show rd (List.replicate 17 (0 : Int)) 16 ≤ 4
      rw [h0]; omega
    · show valB (List.replicate 17 0) 17 % pP = 0
      decide
  | n + 1 => by
    obtain ⟨ih1, ih2⟩ := hTo_val r bs hr hb n
    have hys : ∀ i, 0 ≤ rd (bs.drop (16 * n)) i ∧ rd (bs.drop (16 * n)) i < 256 := fun i => by rw [rd_drop]; exact hb _
    have hbo := blockOf_ok _ hys
    have hbv := blockOf_val _ hys
    obtain ⟨hp1, u, hu, hp2⟩ := plus1_val (hTo r bs n) (blockOf (bs.drop (16 * n))) ih1.len ih1.bytes hbo
    have hpv := valB_in' (plus1 (hTo r bs n) (blockOf (bs.drop (16 * n)))) 17 (fun i _ => hp1 i)
    have hsv := small_val ih1
    rw [p136'] at hpv
    have hu0 : u = 0 := by omega
    subst hu0
    obtain ⟨ht1, o, ht2⟩ := timesT_val _ r hp1 hr
    have hE : hTo r bs (n + 1) = timesT (plus1 (hTo r bs n) (blockOf (bs.drop (16 * n)))) r := rfl
    have hS : sumN (valB r 17) bs (n + 1) = (sumN (valB r 17) bs n + valB (blockOf (bs.drop (16 * n))) 17) * valB r 17 % pP := rfl
    rw [hE, hS]
    refine ⟨ht1, ?_⟩
    rw [ht2, ← ih2]
    have hp3 : valB (plus1 (hTo r bs n) (blockOf (bs.drop (16 * n)))) 17 = valB (hTo r bs n) 17 + valB (blockOf (bs.drop (16 * n))) 17 := by omega
    rw [hp3]
    generalize valB (hTo r bs n) 17 = V at *
    generalize valB (blockOf (bs.drop (16 * n))) 17 = B at *
    generalize valB r 17 = R at *
    have hV := Int.emod_add_mul_ediv V pP
    have e : (V + B) * R - pP * o = (V % pP + B) * R + pP * (V / pP * R - o) := by
      generalize V % pP = a at *
      generalize V / pP = q at *
      rw [← hV]
      grind
    rw [e, Int.add_mul_emod_self_left]
theorem minusP_val : valB minusP 17 = 87112285931760246646623899502532662132736 - pP := by decide
theorem minusP_ok (i : Nat) : 0 ≤ rd minusP i ∧ rd minusP i < 256 := by
  refine bytes_of17 rfl (fun i hi => ?_) i
  have : i = 0 ∨ i = 1 ∨ i = 2 ∨ i = 3 ∨ i = 4 ∨ i = 5 ∨ i = 6 ∨ i = 7 ∨ i = 8 ∨ i = 9 ∨ i = 10 ∨ i = 11 ∨ i = 12 ∨ i = 13 ∨ i = 14 ∨ i = 15 ∨ i = 16 := by omega
  rcases this with rfl | rfl | rfl | rfl | rfl | rfl | rfl | rfl | rfl | rfl | rfl | rfl | rfl | rfl | rfl | rfl | rfl <;> decide
theorem finT_val (h : List Int) (hs : Small h) : (∀ i, 0 ≤ rd (finT h) i ∧ rd (finT h) i < 256) ∧ (finT h).length = 17 ∧ valB (finT h) 17 = valB h 17 % pP := by
  obtain ⟨hp1, u, hu, hp2⟩ := plus1_val h minusP hs.len hs.bytes minusP_ok
  have hsv := small_val hs
  have hpl : (plus1 h minusP).length = 17 := (plus1_length _ _).trans hs.len
  have hpv := valB_in' (plus1 h minusP) 16 (fun i _ => hp1 i)
  have e : valB (plus1 h minusP) 17 = valB (plus1 h minusP) 16 + rd (plus1 h minusP) 16 * 2 ^ (8 * 16) := rfl
  have ht := hp1 16
  rw [p128] at hpv e
  rw [minusP_val] at hp2
  have hpp : pP = 1361129467683753853853498429727072845819 := rfl
  unfold finT
  by_cases h0 : rd (plus1 h minusP) 16 / 128 = 0
  · rw [if_pos h0]
    refine ⟨hp1, hpl, ?_⟩
    generalize valB (plus1 h minusP) 17 = W at *
    generalize valB (plus1 h minusP) 16 = W' at *
    generalize rd (plus1 h minusP) 16 = x at *
    generalize valB h 17 = V at *
    have hu1 : u = 1 := by omega
    subst hu1
    have e2 : V = W + pP * 1 := by omega
    rw [e2, Int.add_mul_emod_self_left]
    exact (Int.emod_eq_of_lt (by omega) (by omega)).symm
  · rw [if_neg h0]
    refine ⟨hs.bytes, hs.len, ?_⟩
    generalize valB (plus1 h minusP) 17 = W at *
    generalize valB (plus1 h minusP) 16 = W' at *
    generalize rd (plus1 h minusP) 16 = x at *
    generalize valB h 17 = V at *
    have hu0 : u = 0 := by omega
    subst hu0
    exact (Int.emod_eq_of_lt (by omega) (by omega)).symm
theorem rd_outT (h : List Int) (i : Nat) : ∀ n, n ≤ 16 → rd (outT h n) i = if i < n then rd h i % 256 else 0
  | 0, _ => by
    rw [if_neg (by omega)]
    exact rd_rep0 _ _
  | n + 1, hn => by
    rw [outT_succ, rd_set', outT_length, rd_outT h i n (by omega)]
    by_cases h1 : n = i
    · subst h1
      rw [if_pos ⟨rfl, by omega⟩, if_pos (by omega)]
    · rw [if_neg (by omega)]
      by_cases h2 : i < n
      · rw [if_pos h2, if_pos (by omega)]
      · rw [if_neg h2, if_neg (by omega)]
/-- The reference's tag is the program's. -/
theorem tagT_eq (key bs : List Int) (hk : key.length = 32) (rk : ∀ i, 0 ≤ rd key i ∧ rd key i < 256) (rb : ∀ i, 0 ≤ rd bs i ∧ rd bs i < 256) : tagT key bs = polySum key bs := by
  obtain ⟨hpb, hpv⟩ := poly_num key bs hk rk rb
  have hrb := rbytes_in key hk rk
  obtain ⟨hs, hv⟩ := hTo_val (rbytes key) bs hrb rb ((bs.length + 15) / 16)
  obtain ⟨hf1, hf2, hf3⟩ := finT_val _ hs
  rw [hv] at hf3
  rw [← hf3] at hpv
  have hE : tagT key bs = outT (plus1 (finT (hTo (rbytes key) bs ((bs.length + 15) / 16))) (putTo (fun j => rd key (16 + j)) 16)) 16 := rfl
  rw [hE]
  have hFb : 0 ≤ valB (finT (hTo (rbytes key) bs ((bs.length + 15) / 16))) 17 ∧ valB (finT (hTo (rbytes key) bs ((bs.length + 15) / 16))) 17 < pP := by
    rw [hf3, ← hv]
    exact ⟨Int.emod_nonneg _ (by decide), Int.emod_lt_of_pos _ (by decide)⟩
  generalize finT (hTo (rbytes key) bs ((bs.length + 15) / 16)) = F at *
  have hKr : ∀ i, rd (putTo (fun j => rd key (16 + j)) 16) i = if i < 16 then rd key (16 + i) else 0 := fun i => rd_putTo _ _ _ (by omega)
  have hKb : ∀ i, 0 ≤ rd (putTo (fun j => rd key (16 + j)) 16) i ∧ rd (putTo (fun j => rd key (16 + j)) 16) i < 256 := fun i => by
    rw [hKr]
    split
    · exact rk _
    · omega
  have hKv : valB (putTo (fun j => rd key (16 + j)) 16) 17 = valB (key.drop 16) 16 := by
    have e : valB (putTo (fun j => rd key (16 + j)) 16) 17 = valB (putTo (fun j => rd key (16 + j)) 16) 16 + rd (putTo (fun j => rd key (16 + j)) 16) 16 * 2 ^ (8 * 16) := rfl
    rw [e, hKr, if_neg (by omega), valB_congr 16 (fun i hi => by rw [hKr, if_pos hi, rd_drop] : ∀ i, i < 16 → rd (putTo (fun j => rd key (16 + j)) 16) i = rd (key.drop 16) i)]
    simp
  have hKb2 := valB_in' (key.drop 16) 16 (fun i _ => by rw [rd_drop]; exact rk _)
  rw [p128] at hKb2
  obtain ⟨hq1, u, hu, hq2⟩ := plus1_val F _ hf2 hf1 hKb
  rw [hKv] at hq2
  generalize plus1 F (putTo (fun j => rd key (16 + j)) 16) = Q at *
  have hQv := valB_in' Q 16 (fun i _ => hq1 i)
  have e : valB Q 17 = valB Q 16 + rd Q 16 * 2 ^ (8 * 16) := rfl
  rw [p128] at hQv e
  have hQ17 := valB_in' Q 17 (fun i _ => hq1 i)
  rw [p136'] at hQ17
  have hpp : pP = 1361129467683753853853498429727072845819 := rfl
  have ho : ∀ i, i < 16 → rd (outT Q 16) i = rd Q i := fun i hi => by
    rw [rd_outT Q i 16 (Nat.le_refl _), if_pos hi]
    have := hq1 i
    omega
  have hob : ∀ i, 0 ≤ rd (outT Q 16) i ∧ rd (outT Q 16) i < 256 := fun i => by
    rw [rd_outT Q i 16 (Nat.le_refl _)]
    split <;> omega
  have hval : valB (outT Q 16) 16 = valB (polySum key bs) 16 := by
    rw [valB_congr 16 ho, hpv]
    generalize valB Q 17 = A at *
    generalize valB Q 16 = B at *
    generalize rd Q 16 = x at *
    generalize valB F 17 = V at *
    generalize valB (key.drop 16) 16 = K at *
    omega
  refine ext_rd (by rw [outT_length, polySum_length]) fun i hi => ?_
  rw [outT_length] at hi
  exact valB_inj _ _ hob hpb 16 hval i hi
end Go.Proofs.YtpmmmbilfblcpaaDoor
