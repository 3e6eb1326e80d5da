/- What was sealed is opened as it was. -/
import Derived.Test.YtpmmmbilfblcpaaDoorFirst7
namespace Go.Proofs.YtpmmmbilfblcpaaDoor
open Go.RowKit Go.Cour
theorem outTo_ok (s f : List Int) : ∀ n, bytesOk (outTo s f n)
  | 0 => bytesOk_zeros' 64
  | n + 1 => by
    unfold outTo
    rw [foldl_succ]
    exact bytesOk_set (outTo_ok s f n) _ _ ⟨Int.emod_nonneg _ (by decide), Int.emod_lt_of_pos _ (by decide)⟩
theorem block_ok (key : List Int) (c : Int) (nonce : List Int) : bytesOk (block key c nonce) := outTo_ok _ _ _
theorem rd_zeros (n i : Nat) : rd (List.replicate n 0) i = 0 := by
  unfold rd
  rw [List.getD_eq_getElem?_getD, List.getElem?_replicate]
  split <;> rfl
theorem rd_xorTo (key : List Int) (c : Int) (nonce xs : List Int) (i : Nat) (hi : i < xs.length) : ∀ n, n ≤ xs.length → rd (xorTo key c nonce xs n) i = if i < n then xorByte key c nonce xs i else 0
  | 0, _ => by
    rw [if_neg (by omega)]
    exact rd_zeros _ _
  | n + 1, hn => by
    rw [xorTo_succ, rd_set', xorTo_length, rd_xorTo key c nonce xs i hi n (by omega)]
    by_cases h : n = i
    · subst h
      rw [if_pos ⟨rfl, hi⟩, if_pos (by omega)]
    · rw [if_neg (fun h' => h h'.1)]
      by_cases h2 : i < n
      · rw [if_pos h2, if_pos (by omega)]
      · rw [if_neg h2, if_neg (by omega)]
theorem rd_xorStream (key : List Int) (c : Int) (nonce xs : List Int) (i : Nat) (hi : i < xs.length) : rd (xorStream key c nonce xs) i = xorByte key c nonce xs i := by
  rw [xorStream, rd_xorTo key c nonce xs i hi _ (Nat.le_refl _), if_pos hi]
theorem xorStream_ok (key : List Int) (c : Int) (nonce xs : List Int) (h : bytesOk xs) : bytesOk (xorStream key c nonce xs) := by
  intro i
  by_cases hi : i < xs.length
  · rw [rd_xorStream key c nonce xs i hi]
    exact xor_u8_bound _ _ (h i) (block_ok _ _ _ _)
  · unfold rd
    rw [List.getD_eq_getElem?_getD, List.getElem?_eq_none (by rw [xorStream_length]; omega)]
    simp
theorem xor_u8_twice (x y : Int) (hx : 0 ≤ x ∧ x < 256) (hy : 0 ≤ y ∧ y < 256) : bits .xor .u8 (bits .xor .u8 x y) y = x := by
  obtain ⟨a, rfl⟩ : ∃ a : Nat, x = (a : Int) := ⟨x.toNat, by omega⟩
  obtain ⟨b, rfl⟩ : ∃ b : Nat, y = (b : Int) := ⟨y.toNat, by omega⟩
  have h : a ^^^ b < 2 ^ 8 := Nat.xor_lt_two_pow (by omega) (by omega)
  rw [bits_xor_u8_nat a b (by omega) (by omega), bits_xor_u8_nat _ b (by omega) (by omega), Nat.xor_assoc, Nat.xor_self, Nat.xor_zero]
theorem xorStream_twice (key : List Int) (c : Int) (nonce xs : List Int) (h : bytesOk xs) : xorStream key c nonce (xorStream key c nonce xs) = xs := by
  refine ext_rd (by rw [xorStream_length, xorStream_length]) fun i hi => ?_
  rw [xorStream_length, xorStream_length] at hi
  rw [rd_xorStream _ _ _ _ _ (by rw [xorStream_length]; exact hi), xorByte, rd_xorStream key c nonce xs i hi, xorByte]
  exact xor_u8_twice _ _ (h i) (block_ok _ _ _ _)
theorem sealText_ok (key nonce ad b : List Int) (h : bytesOk b) : bytesOk (sealText key nonce ad b) := by
  intro i
  unfold sealText rd
  rw [List.getD_eq_getElem?_getD, List.getElem?_append]
  split
  · rw [← List.getD_eq_getElem?_getD]; exact xorStream_ok key 1 nonce b h i
  · rw [← List.getD_eq_getElem?_getD]; exact tagOf_ok _ _ _ _ _
theorem open_seal (key nonce ad b : List Int) (h : bytesOk b) : openOf key nonce ad (sealText key nonce ad b) = .inl b := by
  have hl := sealText_length key nonce ad b
  have hx := xorStream_length key 1 nonce b
  rw [openOf, if_neg (by omega), hl]
  have e : b.length + 16 - 16 = (xorStream key 1 nonce b).length := by omega
  rw [e, sealText, List.take_left, List.drop_left, if_pos rfl, xorStream_twice key 1 nonce b h]
end Go.Proofs.YtpmmmbilfblcpaaDoor
