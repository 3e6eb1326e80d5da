/- The tag's numbers: brought below the modulus; the lowest 128 bits; a tag's bytes. -/
import Derived.Test.YtpmmmbilfblcpaaDoorMatE
namespace Go.Proofs.YtpmmmbilfblcpaaDoor
open Go.RowKit Go.Cour
/-- One way through the parts: what is left is carried out. -/
theorem carryTo_val (a : List Int) (hl : a.length = 5) (h : ∀ i, i < 5 → 0 ≤ rd a i ∧ rd a i < 4611686018427387904) :
    0 ≤ (carryTo a 5).2 ∧ val5 (carryTo a 5).1 = val5 a - (carryTo a 5).2 * 1361129467683753853853498429727072845824 ∧ (∀ i, i < 5 → 0 ≤ rd (carryTo a 5).1 i ∧ rd (carryTo a 5).1 i < 67108864) ∧ (carryTo a 5).1.length = 5 := by
  have h0 := h 0 (by omega)
  have h1 := h 1 (by omega)
  have h2 := h 2 (by omega)
  have h3 := h 3 (by omega)
  have h4 := h 4 (by omega)
  generalize ha0 : rd a 0 = a0 at *
  generalize ha1 : rd a 1 = a1 at *
  generalize ha2 : rd a 2 = a2 at *
  generalize ha3 : rd a 3 = a3 at *
  generalize ha4 : rd a 4 = a4 at *
  have ha : a = [a0, a1, a2, a3, a4] := by rw [list5 a hl, ha0, ha1, ha2, ha3, ha4]
  obtain ⟨o0, ho0⟩ : ∃ o, o = a0 / 67108864 := ⟨_, rfl⟩
  obtain ⟨o1, ho1⟩ : ∃ o, o = (a1 + o0) / 67108864 := ⟨_, rfl⟩
  obtain ⟨o2, ho2⟩ : ∃ o, o = (a2 + o1) / 67108864 := ⟨_, rfl⟩
  obtain ⟨o3, ho3⟩ : ∃ o, o = (a3 + o2) / 67108864 := ⟨_, rfl⟩
  obtain ⟨o4, ho4⟩ : ∃ o, o = (a4 + o3) / 67108864 := ⟨_, rfl⟩
  have hc : carryTo a 5 = ([a0 % 67108864, (a1 + o0) % 67108864, (a2 + o1) % 67108864, (a3 + o2) % 67108864, (a4 + o3) % 67108864], o4) := by
    have e : carryTo a 5 = carry1 (carry1 (carry1 (carry1 (carry1 (a, 0) 0) 1) 2) 3) 4 := rfl
    rw [e, ha, carry1_0 _ _ _ _ _ _ (by omega), Int.add_zero, ← ho0, carry1_1 _ _ _ _ _ _ (by omega), ← ho1, carry1_2 _ _ _ _ _ _ (by omega), ← ho2, carry1_3 _ _ _ _ _ _ (by omega), ← ho3, carry1_4 _ _ _ _ _ _ (by omega), ← ho4]
  rw [hc]
  refine ⟨by show 0 ≤ o4; omega, ?_, fun i hi => ?_, rfl⟩
  · show a0 % 67108864 + (a1 + o0) % 67108864 * 67108864 + (a2 + o1) % 67108864 * 4503599627370496 + (a3 + o2) % 67108864 * 302231454903657293676544 + (a4 + o3) % 67108864 * 20282409603651670423947251286016 = _ - o4 * _
    unfold val5
    rw [ha0, ha1, ha2, ha3, ha4]
    omega
  · have hh : i = 0 ∨ i = 1 ∨ i = 2 ∨ i = 3 ∨ i = 4 := by omega
    rcases hh with rfl | rfl | rfl | rfl | rfl
    · show 0 ≤ a0 % 67108864 ∧ a0 % 67108864 < 67108864; omega
    · show 0 ≤ (a1 + o0) % 67108864 ∧ (a1 + o0) % 67108864 < 67108864; omega
    · show 0 ≤ (a2 + o1) % 67108864 ∧ (a2 + o1) % 67108864 < 67108864; omega
    · show 0 ≤ (a3 + o2) % 67108864 ∧ (a3 + o2) % 67108864 < 67108864; omega
    · show 0 ≤ (a4 + o3) % 67108864 ∧ (a4 + o3) % 67108864 < 67108864; omega
/-- Carried twice more, each part is one. -/
theorem carry2_full (a : List Int) (h : Near a) : (∃ o : Int, val5 (carryN a 2) = val5 a - o * pP) ∧ (carryN a 2).length = 5 ∧ ∀ i, i < 5 → 0 ≤ rd (carryN a 2) i ∧ rd (carryN a 2) i < 67108864 := by
  have e : carryN a 2 = carryRound (carryRound a) := (carryN_succ a 1).trans (congrArg carryRound ((carryN_succ a 0).trans (congrArg carryRound (carryN_zero a))))
  have h0 := h.lo
  have h1 := h.hi 1 (by omega) (by omega)
  have h2 := h.hi 2 (by omega) (by omega)
  have h3 := h.hi 3 (by omega) (by omega)
  have h4 := h.hi 4 (by omega) (by omega)
  obtain ⟨o, ho, hv, hb0, hb, hob⟩ := carryRound_val a h.len (fun i hi => by have := h.in i hi; omega)
  have hb1 := hb 1 (by omega) (by omega)
  have hb2 := hb 2 (by omega) (by omega)
  have hb3 := hb 3 (by omega) (by omega)
  have hb4 := hb 4 (by omega) (by omega)
  have hl1 : (carryRound a).length = 5 := by rw [carryRound_length, h.len]
  have hc0 : rd (carryRound a) 0 < 67108864 := by
    have : o = 0 ∨ o = 1 := by omega
    rcases this with rfl | rfl
    · omega
    · unfold val5 pP at hv; omega
  obtain ⟨o', ho', hv', hb0', hb', hob'⟩ := carryRound_val (carryRound a) hl1 (fun i hi => by
    have hh : i = 0 ∨ i = 1 ∨ i = 2 ∨ i = 3 ∨ i = 4 := by omega
    rcases hh with rfl | rfl | rfl | rfl | rfl <;> omega)
  have hb1' := hb' 1 (by omega) (by omega)
  have hb2' := hb' 2 (by omega) (by omega)
  have hb3' := hb' 3 (by omega) (by omega)
  have hb4' := hb' 4 (by omega) (by omega)
  have hc0' : rd (carryRound (carryRound a)) 0 < 67108864 := by
    have : o' = 0 ∨ o' = 1 := by omega
    rcases this with rfl | rfl
    · omega
    · unfold val5 pP at hv'; omega
  rw [e]
  refine ⟨⟨o + o', by rw [hv', hv, Int.add_mul]; omega⟩, by rw [carryRound_length, hl1], fun i hi => ?_⟩
  have hh : i = 0 ∨ i = 1 ∨ i = 2 ∨ i = 3 ∨ i = 4 := by omega
  rcases hh with rfl | rfl | rfl | rfl | rfl <;> omega
theorem lowA_val (a : List Int) (h : Near a) : val5 (lowA a) = val5 a % pP ∧ (∀ i, i < 5 → 0 ≤ rd (lowA a) i ∧ rd (lowA a) i < 67108864) := by
  obtain ⟨⟨o, ho⟩, hl, hb⟩ := carry2_full a h
  have hla : lowA a = if 0 < (more5 (carryN a 2)).2 then (more5 (carryN a 2)).1 else carryN a 2 := rfl
  rw [hla]
  clear hla
  have hmod : val5 a % pP = val5 (carryN a 2) % pP := by
    have : val5 a = val5 (carryN a 2) + pP * o := by rw [ho, Int.mul_comm]; omega
    rw [this, Int.add_mul_emod_self_left]
  rw [hmod]
  clear hmod ho
  generalize carryN a 2 = c at *
  have hb0 := hb 0 (by omega)
  have hb1 := hb 1 (by omega)
  have hb2 := hb 2 (by omega)
  have hb3 := hb 3 (by omega)
  have hb4 := hb 4 (by omega)
  have hcv : 0 ≤ val5 c ∧ val5 c < 1361129467683753853853498429727072845824 := by unfold val5; omega
  have hs : ∀ i, rd (c.set 0 (u64 (rd c 0 + 5))) i = if 0 = i ∧ i < 5 then rd c 0 + 5 else rd c i := fun i => by rw [rd_set', hl, u64_in _ (by omega)]
  have hsv : val5 (c.set 0 (u64 (rd c 0 + 5))) = val5 c + 5 := by
    unfold val5
    rw [hs 0, hs 1, hs 2, hs 3, hs 4]
    simp
    omega
  obtain ⟨hm1, hm2, hm3, hm4⟩ := carryTo_val (c.set 0 (u64 (rd c 0 + 5))) (by simp [hl]) (fun i hi => by
    rw [hs i]
    have := hb i hi
    split <;> omega)
  have hx0 := hm3 0 (by omega)
  have hx1 := hm3 1 (by omega)
  have hx2 := hm3 2 (by omega)
  have hx3 := hm3 3 (by omega)
  have hx4 := hm3 4 (by omega)
  have hmv : 0 ≤ val5 (carryTo (c.set 0 (u64 (rd c 0 + 5))) 5).1 ∧ val5 (carryTo (c.set 0 (u64 (rd c 0 + 5))) 5).1 < 1361129467683753853853498429727072845824 := by unfold val5; omega
  rw [hsv] at hm2
  have hmo : more5 c = carryTo (c.set 0 (u64 (rd c 0 + 5))) 5 := rfl
  rw [hmo]
  clear hmo hs hsv
  generalize carryTo (c.set 0 (u64 (rd c 0 + 5))) 5 = M at *
  have hp : pP = 1361129467683753853853498429727072845819 := rfl
  by_cases hpos : 0 < M.2
  · rw [if_pos hpos]
    refine ⟨?_, hm3⟩
    generalize val5 c = V at *
    generalize val5 M.1 = W at *
    generalize M.2 = O at *
    have ho1 : O = 1 := by omega
    subst ho1
    have e : V = W + pP * 1 := by omega
    rw [e, Int.add_mul_emod_self_left]
    exact (Int.emod_eq_of_lt (by omega) (by omega)).symm
  · rw [if_neg hpos]
    refine ⟨?_, hb⟩
    generalize val5 c = V at *
    generalize val5 M.1 = W at *
    generalize M.2 = O at *
    have ho1 : O = 0 := by omega
    subst ho1
    exact (Int.emod_eq_of_lt (by omega) (by omega)).symm
end Go.Proofs.YtpmmmbilfblcpaaDoor
