/- Pieces of a file: what counts them, what they are together. -/
import Derived.Test.YtpmmmbilfblcpaaStrE
namespace Go.Proofs.Ytpmmmbilfblcpaa
open Go.RowKit Go.Cour
/-- Count, of a file of L bytes, by chunks of C. -/
theorem count_facts (L : Nat) (C : Int) (hC : 1 ≤ C) : ∃ d : Int, (L : Int) / C = d ∧ 0 ≤ d ∧ d * C ≤ L ∧ (L : Int) < (d + 1) * C ∧ countI L C = max (if d * C < L then d + 1 else d) 1 := by
  have m1 : max C 1 = C := by omega
  have m2 : max (L : Int) 0 = L := by omega
  refine ⟨(L : Int) / C, rfl, Int.ediv_nonneg (by omega) (by omega), Int.ediv_mul_le _ (by omega), ?_, ?_⟩
  · exact Int.lt_ediv_add_one_mul_self _ (by omega)
  · unfold countI countD
    rw [m1, m2]
theorem mul_lt_of {a b C : Int} (hC : 1 ≤ C) (h : a * C < b * C) : a < b := Int.lt_of_mul_lt_mul_right h (by omega)
/-- A piece that is there. -/
theorem pieceOf_at (xs : List Int) (C : Int) (i : Nat) (hC : 1 ≤ C) (hi : (i : Int) ≤ (xs.length : Int) / C) : pieceOf xs C i = (xs.drop (i * C.toNat)).take C.toNat := by
  have m1 : max C 1 = C := by omega
  have e : ((i : Int) * C).toNat = i * C.toNat := by
    have hc2 : C = (C.toNat : Int) := by omega
    rw [hc2, ← Int.natCast_mul, Int.toNat_natCast, Int.toNat_natCast]
  rw [pieceOf, m1, if_neg (by omega), e]
theorem lt_count (L : Nat) (C : Int) (hC : 1 ≤ C) (i : Nat) (h : (i : Int) < countI L C) : (i : Int) ≤ (L : Int) / C := by
  obtain ⟨d, h1, h2, h3, h4, h5⟩ := count_facts L C hC
  rw [h1]
  rw [h5] at h
  generalize d * C = e at *
  split at h <;> omega
theorem take_piece (xs : List Int) (C : Int) (i : Nat) (hC : 1 ≤ C) (h : (i : Int) < countI xs.length C) :
    xs.take (i * C.toNat) ++ pieceOf xs C i = xs.take ((i + 1) * C.toNat) := by
  rw [pieceOf_at xs C i hC (lt_count _ C hC i h), Nat.add_mul, Nat.one_mul, List.take_add]
theorem take_all (xs : List Int) (C : Int) (N : Nat) (hC : 1 ≤ C) (h : countI xs.length C = (N : Int)) : xs.take (N * C.toNat) = xs := by
  obtain ⟨d, h1, h2, h3, h4, h5⟩ := count_facts xs.length C hC
  refine List.take_of_length_le ?_
  have e : ((N * C.toNat : Nat) : Int) = (N : Int) * C := by
    have hc2 : C = (C.toNat : Int) := by omega
    rw [Int.natCast_mul, ← hc2]
  have h6 : (xs.length : Int) ≤ (N : Int) * C := by
    rw [← h, h5]
    split
    · have : (d + 1) * C ≤ max (d + 1) 1 * C := Int.mul_le_mul_of_nonneg_right (by omega) (by omega)
      omega
    · have : d * C ≤ max d 1 * C := Int.mul_le_mul_of_nonneg_right (by omega) (by omega)
      omega
  omega
/-- How long a piece is. -/
theorem piece_len (xs : List Int) (C : Int) (i N : Nat) (hC : 1 ≤ C) (h : countI xs.length C = (N : Int)) (hi : i < N) :
    ((pieceOf xs C i).length : Int) ≤ C ∧ (i + 1 < N → ((pieceOf xs C i).length : Int) = C) ∧ (i + 1 = N → (pieceOf xs C i).length = 0 → xs.length = 0) := by
  obtain ⟨d, h1, h2, h3, h4, h5⟩ := count_facts xs.length C hC
  have hid := lt_count xs.length C hC i (by omega)
  rw [pieceOf_at xs C i hC hid, List.length_take, List.length_drop]
  rw [h1] at hid
  have e : ((i * C.toNat : Nat) : Int) = (i : Int) * C := by
    have hc2 : C = (C.toNat : Int) := by omega
    rw [Int.natCast_mul, ← hc2]
  have h6 : (i : Int) * C ≤ d * C := Int.mul_le_mul_of_nonneg_right hid (by omega)
  have h7 : i + 1 < N → ((i : Int) + 1) * C ≤ d * C := fun hlt => by
    refine Int.mul_le_mul_of_nonneg_right ?_ (by omega)
    rw [h5] at h
    generalize d * C = e at *
    split at h <;> omega
  have h8 : i + 1 = N → (i : Int) * C < xs.length ∨ xs.length = 0 := fun hlt => by
    rw [h5] at h
    split at h
    · have : (i : Int) = d := by omega
      rw [this]
      omega
    · by_cases hd : d = 0
      · subst hd
        right
        rw [Int.zero_mul] at *
        omega
      · left
        have : (i : Int) = d - 1 := by omega
        rw [this, Int.sub_mul, Int.one_mul]
        omega
  have h9 : ((i : Int) + 1) * C = (i : Int) * C + C := by rw [Int.add_mul, Int.one_mul]
  rw [h9] at h7
  generalize (i : Int) * C = ic at *
  generalize i * C.toNat = ic' at *
  generalize d * C = dc at *
  refine ⟨by omega, fun hlt => ?_, fun hlt hz => ?_⟩
  · have := h7 hlt
    omega
  · have := h8 hlt
    omega
/-- Beyond them there is nothing. -/
theorem piece_far (xs : List Int) (C : Int) (N : Nat) (far : Int) (hC : 1 ≤ C) (h : countI xs.length C = (N : Int)) (hf : 0 ≤ far) : pieceOf xs C ((N : Int) + far) = [] := by
  obtain ⟨d, h1, h2, h3, h4, h5⟩ := count_facts xs.length C hC
  have m1 : max C 1 = C := by omega
  unfold pieceOf
  rw [m1, h1]
  by_cases hlt : d < (N : Int) + far
  · rw [if_pos (.inr hlt)]
  · have hd : (N : Int) + far = d := by
      rw [h5] at h
      generalize d * C = e at *
      split at h <;> omega
    have hz : d * C = xs.length := by
      rw [h5] at h
      split at h
      · omega
      · generalize d * C = e at *; omega
    rw [if_neg (by omega), hd, List.drop_eq_nil_of_le (by omega), List.take_nil]
theorem piece_neg (xs : List Int) (C i : Int) (h : i < 0) : pieceOf xs C i = [] := by rw [pieceOf, if_pos (.inl h)]
theorem count_zero (L : Nat) : countI L 0 = max (L : Int) 1 := by
  have h : (max (L : Int) 0 / max 0 1) = L := by
    rw [show max (0 : Int) 1 = 1 from rfl, Int.ediv_one]; omega
  unfold countI countD
  rw [h, show max (0 : Int) 1 = 1 from rfl, Int.mul_one, if_neg (by omega)]
theorem count_neg (p q : Int) (h : p < 0) : countI p q = 1 := by
  unfold countI countD
  rw [show max p 0 = 0 by omega, Int.zero_ediv, Int.zero_mul, if_neg (by omega)]
  rfl
end Go.Proofs.Ytpmmmbilfblcpaa
