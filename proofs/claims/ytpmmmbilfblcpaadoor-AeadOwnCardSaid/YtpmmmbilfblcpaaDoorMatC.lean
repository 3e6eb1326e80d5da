/- The tag's numbers: seventeen bytes as five parts. -/
import Derived.Test.YtpmmmbilfblcpaaDoorMatB
namespace Go.Proofs.YtpmmmbilfblcpaaDoor
open Go.RowKit Go.Cour
/-- Bytes as a number, the least first. -/
def valB (b : List Int) : Nat → Int
  | 0 => 0
  | n + 1 => valB b n + rd b n * 2 ^ (8 * n)
/-- Bit i of bytes. -/
def bitB (b : List Int) (i : Nat) : Int := rd b (i / 8) / 2 ^ (i % 8) % 2
def sumB (b : List Int) : Nat → Int
  | 0 => 0
  | n + 1 => sumB b n + bitB b n * 2 ^ n
theorem bitB_in (b : List Int) (i : Nat) : 0 ≤ bitB b i ∧ bitB b i < 2 := ⟨Int.emod_nonneg _ (by decide), Int.emod_lt_of_pos _ (by decide)⟩
theorem sumB_byte (b : List Int) (h : ∀ i, 0 ≤ rd b i ∧ rd b i < 256) (j : Nat) : sumB b (8 * j + 8) = sumB b (8 * j) + rd b j * 2 ^ (8 * j) := by
  have e : ∀ t, t < 8 → bitB b (8 * j + t) = rd b j / 2 ^ t % 2 := fun t ht => by
    unfold bitB
    rw [show (8 * j + t) / 8 = j by omega, show (8 * j + t) % 8 = t by omega]
  have hs : sumB b (8 * j + 8) = sumB b (8 * j) + bitB b (8 * j + 0) * 2 ^ (8 * j + 0) + bitB b (8 * j + 1) * 2 ^ (8 * j + 1) + bitB b (8 * j + 2) * 2 ^ (8 * j + 2) + bitB b (8 * j + 3) * 2 ^ (8 * j + 3) + bitB b (8 * j + 4) * 2 ^ (8 * j + 4) + bitB b (8 * j + 5) * 2 ^ (8 * j + 5) + bitB b (8 * j + 6) * 2 ^ (8 * j + 6) + bitB b (8 * j + 7) * 2 ^ (8 * j + 7) := rfl
  rw [hs, e 0 (by omega), e 1 (by omega), e 2 (by omega), e 3 (by omega), e 4 (by omega), e 5 (by omega), e 6 (by omega), e 7 (by omega)]
  simp only [Int.pow_add]
  have hx := h j
  generalize rd b j = x at *
  generalize (2 : Int) ^ (8 * j) = p at *
  generalize sumB b (8 * j) = s at *
  have hb : x = x / 2 ^ 0 % 2 + 2 * (x / 2 ^ 1 % 2) + 4 * (x / 2 ^ 2 % 2) + 8 * (x / 2 ^ 3 % 2) + 16 * (x / 2 ^ 4 % 2) + 32 * (x / 2 ^ 5 % 2) + 64 * (x / 2 ^ 6 % 2) + 128 * (x / 2 ^ 7 % 2) := by
    have e1 : (2 : Int) ^ 0 = 1 := rfl
    have e2 : (2 : Int) ^ 1 = 2 := rfl
    have e3 : (2 : Int) ^ 2 = 4 := rfl
    have e4 : (2 : Int) ^ 3 = 8 := rfl
    have e5 : (2 : Int) ^ 4 = 16 := rfl
    have e6 : (2 : Int) ^ 5 = 32 := rfl
    have e7 : (2 : Int) ^ 6 = 64 := rfl
    have e8 : (2 : Int) ^ 7 = 128 := rfl
    rw [e1, e2, e3, e4, e5, e6, e7, e8]
    omega
  generalize x / 2 ^ 0 % 2 = c0 at *
  generalize x / 2 ^ 1 % 2 = c1 at *
  generalize x / 2 ^ 2 % 2 = c2 at *
  generalize x / 2 ^ 3 % 2 = c3 at *
  generalize x / 2 ^ 4 % 2 = c4 at *
  generalize x / 2 ^ 5 % 2 = c5 at *
  generalize x / 2 ^ 6 % 2 = c6 at *
  generalize x / 2 ^ 7 % 2 = c7 at *
  rw [hb]
  grind
theorem sumB_valB (b : List Int) (h : ∀ i, 0 ≤ rd b i ∧ rd b i < 256) : ∀ j, sumB b (8 * j) = valB b j
  | 0 => rfl
  | j + 1 => by
    rw [show 8 * (j + 1) = 8 * j + 8 by omega, sumB_byte b h j, sumB_valB b h j]
    rfl
/-- Part k of the first n bits. -/
def dig (b : List Int) : Nat → Nat → Int
  | 0, _ => 0
  | n + 1, k => dig b n k + (if min (n / 26) 4 = k then bitB b n * 2 ^ (n - 26 * k) else 0)
theorem dig_in (b : List Int) (k : Nat) : ∀ n, 0 ≤ dig b n k ∧ dig b n k < 2 ^ (n - 26 * k)
  | 0 => by
    have : (0 : Int) < 2 ^ (0 - 26 * k) := Int.pow_pos (by decide)
    exact ⟨Int.le_refl _, this⟩
  | n + 1 => by
    have ih := dig_in b k n
    have hb := bitB_in b n
    unfold dig
    split
    · rename_i hk
      have hn : 26 * k ≤ n := by omega
      have e : n + 1 - 26 * k = (n - 26 * k) + 1 := by omega
      rw [e, Int.pow_succ]
      have hp : (0 : Int) < 2 ^ (n - 26 * k) := Int.pow_pos (by decide)
      generalize (2 : Int) ^ (n - 26 * k) = p at *
      have hc : bitB b n = 0 ∨ bitB b n = 1 := by omega
      rcases hc with hc | hc <;> rw [hc] <;> omega
    · have hp : (2 : Int) ^ (n - 26 * k) ≤ 2 ^ (n + 1 - 26 * k) := by
        have h1 : (2 : Nat) ^ (n - 26 * k) ≤ 2 ^ (n + 1 - 26 * k) := Nat.pow_le_pow_right (by decide) (by omega)
        exact_mod_cast h1
      omega
theorem dig_sum (b : List Int) : ∀ n, dig b n 0 + dig b n 1 * 2 ^ 26 + dig b n 2 * 2 ^ 52 + dig b n 3 * 2 ^ 78 + dig b n 4 * 2 ^ 104 = sumB b n
  | 0 => by simp [dig, sumB]
  | n + 1 => by
    have ih := dig_sum b n
    unfold sumB
    rw [← ih]
    have hk : min (n / 26) 4 = 0 ∨ min (n / 26) 4 = 1 ∨ min (n / 26) 4 = 2 ∨ min (n / 26) 4 = 3 ∨ min (n / 26) 4 = 4 := by omega
    have hp : ∀ k, 26 * k ≤ n → (2 : Int) ^ n = 2 ^ (n - 26 * k) * 2 ^ (26 * k) := fun k h => by rw [← Int.pow_add]; congr 1; omega
    rcases hk with h | h | h | h | h
    · have := hp 0 (by omega)
      simp only [dig, h, if_true]
      rw [this]
      simp
      omega
    · have := hp 1 (by omega)
      simp [dig, h]
      rw [this]
      grind
    · have := hp 2 (by omega)
      simp [dig, h]
      rw [this]
      grind
    · have := hp 3 (by omega)
      simp [dig, h]
      rw [this]
      grind
    · have := hp 4 (by omega)
      simp [dig, h]
      rw [this]
      grind
end Go.Proofs.YtpmmmbilfblcpaaDoor
