/- The tag's numbers: five parts as one number: carry, product. -/
import Derived.Test.YtpmmmbilfblcpaaDoorPolE
namespace Go.Proofs.YtpmmmbilfblcpaaDoor
open Go.RowKit Go.Cour
/-- The modulus. -/
def pP : Int := 1361129467683753853853498429727072845819
/-- Five parts of 26 bits as one number. -/
def val5 (a : List Int) : Int := rd a 0 + rd a 1 * 67108864 + rd a 2 * 4503599627370496 + rd a 3 * 302231454903657293676544 + rd a 4 * 20282409603651670423947251286016
theorem u64_in (x : Int) (h : 0 ≤ x ∧ x < 18446744073709551616) : u64 x = x := by
  rw [u64, IntKind.wrap_u64]; omega
theorem list5 (a : List Int) (h : a.length = 5) : a = [rd a 0, rd a 1, rd a 2, rd a 3, rd a 4] := by
  match a, h with
  | [a0, a1, a2, a3, a4], _ => rfl
theorem carry1_0 (x0 x1 x2 x3 x4 o : Int) (h : 0 ≤ x0 + o ∧ x0 + o < 18446744073709551616) : carry1 ([x0, x1, x2, x3, x4], o) 0 = ([(x0 + o) % 67108864, x1, x2, x3, x4], (x0 + o) / 67108864) := by
  have h1 : carry1 ([x0, x1, x2, x3, x4], o) 0 = ([low26 (u64 (x0 + o)), x1, x2, x3, x4], u64 (x0 + o) / 67108864) := rfl
  rw [h1, u64_in _ h, low26_eq _ h.1 h.2]
theorem carry1_1 (x0 x1 x2 x3 x4 o : Int) (h : 0 ≤ x1 + o ∧ x1 + o < 18446744073709551616) : carry1 ([x0, x1, x2, x3, x4], o) 1 = ([x0, (x1 + o) % 67108864, x2, x3, x4], (x1 + o) / 67108864) := by
  have h1 : carry1 ([x0, x1, x2, x3, x4], o) 1 = ([x0, low26 (u64 (x1 + o)), x2, x3, x4], u64 (x1 + o) / 67108864) := rfl
  rw [h1, u64_in _ h, low26_eq _ h.1 h.2]
theorem carry1_2 (x0 x1 x2 x3 x4 o : Int) (h : 0 ≤ x2 + o ∧ x2 + o < 18446744073709551616) : carry1 ([x0, x1, x2, x3, x4], o) 2 = ([x0, x1, (x2 + o) % 67108864, x3, x4], (x2 + o) / 67108864) := by
  have h1 : carry1 ([x0, x1, x2, x3, x4], o) 2 = ([x0, x1, low26 (u64 (x2 + o)), x3, x4], u64 (x2 + o) / 67108864) := rfl
  rw [h1, u64_in _ h, low26_eq _ h.1 h.2]
theorem carry1_3 (x0 x1 x2 x3 x4 o : Int) (h : 0 ≤ x3 + o ∧ x3 + o < 18446744073709551616) : carry1 ([x0, x1, x2, x3, x4], o) 3 = ([x0, x1, x2, (x3 + o) % 67108864, x4], (x3 + o) / 67108864) := by
  have h1 : carry1 ([x0, x1, x2, x3, x4], o) 3 = ([x0, x1, x2, low26 (u64 (x3 + o)), x4], u64 (x3 + o) / 67108864) := rfl
  rw [h1, u64_in _ h, low26_eq _ h.1 h.2]
theorem carry1_4 (x0 x1 x2 x3 x4 o : Int) (h : 0 ≤ x4 + o ∧ x4 + o < 18446744073709551616) : carry1 ([x0, x1, x2, x3, x4], o) 4 = ([x0, x1, x2, x3, (x4 + o) % 67108864], (x4 + o) / 67108864) := by
  have h1 : carry1 ([x0, x1, x2, x3, x4], o) 4 = ([x0, x1, x2, x3, low26 (u64 (x4 + o))], u64 (x4 + o) / 67108864) := rfl
  rw [h1, u64_in _ h, low26_eq _ h.1 h.2]
/-- One round: the same number but for the modulus, smaller parts. -/
theorem carryRound_val (a : List Int) (hl : a.length = 5) (h : ∀ i, i < 5 → 0 ≤ rd a i ∧ rd a i < 4611686018427387904) :
    ∃ o : Int, 0 ≤ o ∧ val5 (carryRound a) = val5 a - o * pP ∧ (0 ≤ rd (carryRound a) 0 ∧ rd (carryRound a) 0 < 67108864 + 5 * o) ∧ (∀ i, 1 ≤ i → i < 5 → 0 ≤ rd (carryRound a) i ∧ rd (carryRound a) i < 67108864) ∧
      o * 67108864 ≤ rd a 4 + (rd a 3 + 137438953472) / 67108864 := by
  have h0 := h 0 (by omega)
  have h1 := h 1 (by omega)
  have h2 := h 2 (by omega)
  have h3 := h 3 (by omega)
  have h4 := h 4 (by omega)
  generalize ha0 : rd a 0 = a0 at *
  generalize ha1 : rd a 1 = a1 at *
  generalize ha2 : rd a 2 = a2 at *
  generalize ha3 : rd a 3 = a3 at *
  generalize ha4 : rd a 4 = a4 at *
  have ha : a = [a0, a1, a2, a3, a4] := by rw [list5 a hl, ha0, ha1, ha2, ha3, ha4]
  obtain ⟨o0, ho0⟩ : ∃ o, o = a0 / 67108864 := ⟨_, rfl⟩
  obtain ⟨o1, ho1⟩ : ∃ o, o = (a1 + o0) / 67108864 := ⟨_, rfl⟩
  obtain ⟨o2, ho2⟩ : ∃ o, o = (a2 + o1) / 67108864 := ⟨_, rfl⟩
  obtain ⟨o3, ho3⟩ : ∃ o, o = (a3 + o2) / 67108864 := ⟨_, rfl⟩
  obtain ⟨o4, ho4⟩ : ∃ o, o = (a4 + o3) / 67108864 := ⟨_, rfl⟩
  have hc : carryTo a 5 = ([a0 % 67108864, (a1 + o0) % 67108864, (a2 + o1) % 67108864, (a3 + o2) % 67108864, (a4 + o3) % 67108864], o4) := by
    have e : carryTo a 5 = carry1 (carry1 (carry1 (carry1 (carry1 (a, 0) 0) 1) 2) 3) 4 := rfl
    rw [e, ha, carry1_0 _ _ _ _ _ _ (by omega), Int.add_zero, ← ho0, carry1_1 _ _ _ _ _ _ (by omega), ← ho1, carry1_2 _ _ _ _ _ _ (by omega), ← ho2, carry1_3 _ _ _ _ _ _ (by omega), ← ho3, carry1_4 _ _ _ _ _ _ (by omega), ← ho4]
  have hr : carryRound a = [a0 % 67108864 + 5 * o4, (a1 + o0) % 67108864, (a2 + o1) % 67108864, (a3 + o2) % 67108864, (a4 + o3) % 67108864] := by
    unfold carryRound
    rw [hc]
    have e : ∀ x, ([a0 % 67108864, (a1 + o0) % 67108864, (a2 + o1) % 67108864, (a3 + o2) % 67108864, (a4 + o3) % 67108864] : List Int).set 0 x = [x, (a1 + o0) % 67108864, (a2 + o1) % 67108864, (a3 + o2) % 67108864, (a4 + o3) % 67108864] := fun x => rfl
    have e0 : rd ([a0 % 67108864, (a1 + o0) % 67108864, (a2 + o1) % 67108864, (a3 + o2) % 67108864, (a4 + o3) % 67108864] : List Int) 0 = a0 % 67108864 := rfl
    rw [e, e0, u64_in (5 * o4) (by omega), u64_in _ (by omega)]
  have r0 : rd (carryRound a) 0 = a0 % 67108864 + 5 * o4 := by rw [hr]; rfl
  have r1 : rd (carryRound a) 1 = (a1 + o0) % 67108864 := by rw [hr]; rfl
  have r2 : rd (carryRound a) 2 = (a2 + o1) % 67108864 := by rw [hr]; rfl
  have r3 : rd (carryRound a) 3 = (a3 + o2) % 67108864 := by rw [hr]; rfl
  have r4 : rd (carryRound a) 4 = (a4 + o3) % 67108864 := by rw [hr]; rfl
  refine ⟨o4, by omega, ?_, by rw [r0]; omega, fun i hi hi5 => ?_, by omega⟩
  · unfold val5 pP
    rw [r0, r1, r2, r3, r4, ha0, ha1, ha2, ha3, ha4]
    omega
  · have hh : i = 1 ∨ i = 2 ∨ i = 3 ∨ i = 4 := by omega
    rcases hh with rfl | rfl | rfl | rfl
    · rw [r1]; omega
    · rw [r2]; omega
    · rw [r3]; omega
    · rw [r4]; omega
end Go.Proofs.YtpmmmbilfblcpaaDoor
