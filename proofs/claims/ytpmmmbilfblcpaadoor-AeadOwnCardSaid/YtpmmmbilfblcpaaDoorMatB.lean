/- The tag's numbers: carried twice; a product. -/
import Derived.Test.YtpmmmbilfblcpaaDoorMatA
import Derived.KernelRfl
namespace Go.Proofs.YtpmmmbilfblcpaaDoor
open Go.RowKit Go.Cour
/-- Parts that are nearly carried: the first may be a little too much. -/
structure Near (a : List Int) : Prop where
  len : a.length = 5
  lo : 0 ≤ rd a 0 ∧ rd a 0 < 67108869
  hi : ∀ i, 1 ≤ i → i < 5 → 0 ≤ rd a i ∧ rd a i < 67108864
theorem carry2_val (a : List Int) (hl : a.length = 5) (h : ∀ i, i < 5 → 0 ≤ rd a i ∧ rd a i < 4611686018427387904) :
    (∃ o : Int, 0 ≤ o ∧ val5 (carryN a 2) = val5 a - o * pP) ∧ Near (carryN a 2) := by
  have e : carryN a 2 = carryRound (carryRound a) := (carryN_succ a 1).trans (congrArg carryRound ((carryN_succ a 0).trans (congrArg carryRound (carryN_zero a))))
  obtain ⟨o, ho, hv, hb0, hb, hob⟩ := carryRound_val a hl h
  have h3 := h 3 (by omega)
  have h4 := h 4 (by omega)
  have hb1 := hb 1 (by omega) (by omega)
  have hb2 := hb 2 (by omega) (by omega)
  have hb3 := hb 3 (by omega) (by omega)
  have hb4 := hb 4 (by omega) (by omega)
  have hl1 := carryRound_length a
  obtain ⟨o', ho', hv', hb0', hb', hob'⟩ := carryRound_val (carryRound a) (by rw [hl1, hl]) (fun i hi => by
    have hh : i = 0 ∨ i = 1 ∨ i = 2 ∨ i = 3 ∨ i = 4 := by omega
    rcases hh with rfl | rfl | rfl | rfl | rfl <;> omega)
  rw [e]
  refine ⟨⟨o + o', by omega, by rw [hv', hv, Int.add_mul]; omega⟩, by rw [carryRound_length, hl1, hl], ?_, hb'⟩
  have : o' ≤ 1 := by omega
  omega
theorem toutTo_raw (a0 a1 a2 a3 a4 b0 b1 b2 b3 b4 : Int) : toutTo [a0, a1, a2, a3, a4] [b0, b1, b2, b3, b4] 5 = [u64 (u64 (u64 (u64 (u64 (0 + u64 (a0 * b0)) + u64 (u64 (a1 * b4) * 5)) + u64 (u64 (a2 * b3) * 5)) + u64 (u64 (a3 * b2) * 5)) + u64 (u64 (a4 * b1) * 5)),
    u64 (u64 (u64 (u64 (u64 (0 + u64 (a0 * b1)) + u64 (a1 * b0)) + u64 (u64 (a2 * b4) * 5)) + u64 (u64 (a3 * b3) * 5)) + u64 (u64 (a4 * b2) * 5)),
    u64 (u64 (u64 (u64 (u64 (0 + u64 (a0 * b2)) + u64 (a1 * b1)) + u64 (a2 * b0)) + u64 (u64 (a3 * b4) * 5)) + u64 (u64 (a4 * b3) * 5)),
    u64 (u64 (u64 (u64 (u64 (0 + u64 (a0 * b3)) + u64 (a1 * b2)) + u64 (a2 * b1)) + u64 (a3 * b0)) + u64 (u64 (a4 * b4) * 5)),
    u64 (u64 (u64 (u64 (u64 (0 + u64 (a0 * b4)) + u64 (a1 * b3)) + u64 (a2 * b2)) + u64 (a3 * b1)) + u64 (a4 * b0))] := by kernel_rfl
/-- Ten products' sum, each step of 64 bits: no step is too much. -/
theorem five_u64 (x0 x1 x2 x3 x4 : Int) (h0 : 0 ≤ x0 ∧ x0 < 288230376151711744) (h1 : 0 ≤ x1 ∧ x1 < 288230376151711744) (h2 : 0 ≤ x2 ∧ x2 < 288230376151711744) (h3 : 0 ≤ x3 ∧ x3 < 288230376151711744) (h4 : 0 ≤ x4 ∧ x4 < 288230376151711744) :
    u64 (u64 (u64 (u64 (u64 (0 + x0) + x1) + x2) + x3) + x4) = x0 + x1 + x2 + x3 + x4 := by
  rw [u64_in (0 + x0) (by omega), u64_in (0 + x0 + x1) (by omega), u64_in (0 + x0 + x1 + x2) (by omega), u64_in (0 + x0 + x1 + x2 + x3) (by omega), u64_in _ (by omega)]
  omega
theorem prod_in (a b : Int) (ha : 0 ≤ a ∧ a < 268435456) (hb : 0 ≤ b ∧ b < 134217728) : 0 ≤ a * b ∧ a * b < 36028797018963968 := by
  refine ⟨Int.mul_nonneg ha.1 hb.1, ?_⟩
  have h1 : a * b ≤ 268435455 * b := Int.mul_le_mul_of_nonneg_right (by omega) hb.1
  omega
theorem prod1 (a b : Int) (ha : 0 ≤ a ∧ a < 268435456) (hb : 0 ≤ b ∧ b < 134217728) : u64 (a * b) = a * b := by
  have := prod_in a b ha hb
  exact u64_in _ (by omega)
theorem prod5 (a b : Int) (ha : 0 ≤ a ∧ a < 268435456) (hb : 0 ≤ b ∧ b < 134217728) : u64 (u64 (a * b) * 5) = a * b * 5 := by
  have := prod_in a b ha hb
  rw [prod1 a b ha hb]
  exact u64_in _ (by omega)
theorem toutTo_eq (a0 a1 a2 a3 a4 b0 b1 b2 b3 b4 : Int) (ha0 : 0 ≤ a0 ∧ a0 < 268435456) (ha1 : 0 ≤ a1 ∧ a1 < 268435456) (ha2 : 0 ≤ a2 ∧ a2 < 268435456) (ha3 : 0 ≤ a3 ∧ a3 < 268435456) (ha4 : 0 ≤ a4 ∧ a4 < 268435456) (hb0 : 0 ≤ b0 ∧ b0 < 134217728) (hb1 : 0 ≤ b1 ∧ b1 < 134217728) (hb2 : 0 ≤ b2 ∧ b2 < 134217728) (hb3 : 0 ≤ b3 ∧ b3 < 134217728) (hb4 : 0 ≤ b4 ∧ b4 < 134217728) : toutTo [a0, a1, a2, a3, a4] [b0, b1, b2, b3, b4] 5 = [a0 * b0 + a1 * b4 * 5 + a2 * b3 * 5 + a3 * b2 * 5 + a4 * b1 * 5, a0 * b1 + a1 * b0 + a2 * b4 * 5 + a3 * b3 * 5 + a4 * b2 * 5, a0 * b2 + a1 * b1 + a2 * b0 + a3 * b4 * 5 + a4 * b3 * 5, a0 * b3 + a1 * b2 + a2 * b1 + a3 * b0 + a4 * b4 * 5, a0 * b4 + a1 * b3 + a2 * b2 + a3 * b1 + a4 * b0] := by
  rw [toutTo_raw]
  have p00 := prod_in a0 b0 ha0 hb0
  have p01 := prod_in a0 b1 ha0 hb1
  have p02 := prod_in a0 b2 ha0 hb2
  have p03 := prod_in a0 b3 ha0 hb3
  have p04 := prod_in a0 b4 ha0 hb4
  have p10 := prod_in a1 b0 ha1 hb0
  have p11 := prod_in a1 b1 ha1 hb1
  have p12 := prod_in a1 b2 ha1 hb2
  have p13 := prod_in a1 b3 ha1 hb3
  have p14 := prod_in a1 b4 ha1 hb4
  have p20 := prod_in a2 b0 ha2 hb0
  have p21 := prod_in a2 b1 ha2 hb1
  have p22 := prod_in a2 b2 ha2 hb2
  have p23 := prod_in a2 b3 ha2 hb3
  have p24 := prod_in a2 b4 ha2 hb4
  have p30 := prod_in a3 b0 ha3 hb0
  have p31 := prod_in a3 b1 ha3 hb1
  have p32 := prod_in a3 b2 ha3 hb2
  have p33 := prod_in a3 b3 ha3 hb3
  have p34 := prod_in a3 b4 ha3 hb4
  have p40 := prod_in a4 b0 ha4 hb0
  have p41 := prod_in a4 b1 ha4 hb1
  have p42 := prod_in a4 b2 ha4 hb2
  have p43 := prod_in a4 b3 ha4 hb3
  have p44 := prod_in a4 b4 ha4 hb4
  rw [prod1 a0 b0 ha0 hb0, prod1 a0 b1 ha0 hb1, prod1 a0 b2 ha0 hb2, prod1 a0 b3 ha0 hb3, prod1 a0 b4 ha0 hb4, prod1 a1 b0 ha1 hb0, prod1 a1 b1 ha1 hb1, prod1 a1 b2 ha1 hb2, prod1 a1 b3 ha1 hb3, prod5 a1 b4 ha1 hb4, prod1 a2 b0 ha2 hb0, prod1 a2 b1 ha2 hb1, prod1 a2 b2 ha2 hb2, prod5 a2 b3 ha2 hb3, prod5 a2 b4 ha2 hb4, prod1 a3 b0 ha3 hb0, prod1 a3 b1 ha3 hb1, prod5 a3 b2 ha3 hb2, prod5 a3 b3 ha3 hb3, prod5 a3 b4 ha3 hb4, prod1 a4 b0 ha4 hb0, prod5 a4 b1 ha4 hb1, prod5 a4 b2 ha4 hb2, prod5 a4 b3 ha4 hb3, prod5 a4 b4 ha4 hb4]
  generalize a0 * b0 = t00 at *
  generalize a0 * b1 = t01 at *
  generalize a0 * b2 = t02 at *
  generalize a0 * b3 = t03 at *
  generalize a0 * b4 = t04 at *
  generalize a1 * b0 = t10 at *
  generalize a1 * b1 = t11 at *
  generalize a1 * b2 = t12 at *
  generalize a1 * b3 = t13 at *
  generalize a1 * b4 = t14 at *
  generalize a2 * b0 = t20 at *
  generalize a2 * b1 = t21 at *
  generalize a2 * b2 = t22 at *
  generalize a2 * b3 = t23 at *
  generalize a2 * b4 = t24 at *
  generalize a3 * b0 = t30 at *
  generalize a3 * b1 = t31 at *
  generalize a3 * b2 = t32 at *
  generalize a3 * b3 = t33 at *
  generalize a3 * b4 = t34 at *
  generalize a4 * b0 = t40 at *
  generalize a4 * b1 = t41 at *
  generalize a4 * b2 = t42 at *
  generalize a4 * b3 = t43 at *
  generalize a4 * b4 = t44 at *
  rw [five_u64 _ _ _ _ _ (by omega) (by omega) (by omega) (by omega) (by omega), five_u64 _ _ _ _ _ (by omega) (by omega) (by omega) (by omega) (by omega), five_u64 _ _ _ _ _ (by omega) (by omega) (by omega) (by omega) (by omega), five_u64 _ _ _ _ _ (by omega) (by omega) (by omega) (by omega) (by omega), five_u64 _ _ _ _ _ (by omega) (by omega) (by omega) (by omega) (by omega)]
theorem times_num (a0 a1 a2 a3 a4 b0 b1 b2 b3 b4 : Int) : (a0 + a1 * 67108864 + a2 * 4503599627370496 + a3 * 302231454903657293676544 + a4 * 20282409603651670423947251286016) * (b0 + b1 * 67108864 + b2 * 4503599627370496 + b3 * 302231454903657293676544 + b4 * 20282409603651670423947251286016) = ((a0 * b0 + a1 * b4 * 5 + a2 * b3 * 5 + a3 * b2 * 5 + a4 * b1 * 5) + (a0 * b1 + a1 * b0 + a2 * b4 * 5 + a3 * b3 * 5 + a4 * b2 * 5) * 67108864 + (a0 * b2 + a1 * b1 + a2 * b0 + a3 * b4 * 5 + a4 * b3 * 5) * 4503599627370496 + (a0 * b3 + a1 * b2 + a2 * b1 + a3 * b0 + a4 * b4 * 5) * 302231454903657293676544 + (a0 * b4 + a1 * b3 + a2 * b2 + a3 * b1 + a4 * b0) * 20282409603651670423947251286016) + (a1 * b4 + a2 * b3 + a2 * b4 * 67108864 + a3 * b2 + a3 * b3 * 67108864 + a3 * b4 * 4503599627370496 + a4 * b1 + a4 * b2 * 67108864 + a4 * b3 * 4503599627370496 + a4 * b4 * 302231454903657293676544) * 1361129467683753853853498429727072845819 := by
  grind
theorem times_val (a b : List Int) (hla : a.length = 5) (hlb : b.length = 5) (ha : ∀ i, i < 5 → 0 ≤ rd a i ∧ rd a i < 268435456) (hb : ∀ i, i < 5 → 0 ≤ rd b i ∧ rd b i < 134217728) :
    (∃ o : Int, val5 (times a b) = val5 a * val5 b - o * pP) ∧ Near (times a b) := by
  have ha0 := ha 0 (by omega)
  have hb0 := hb 0 (by omega)
  have ha1 := ha 1 (by omega)
  have hb1 := hb 1 (by omega)
  have ha2 := ha 2 (by omega)
  have hb2 := hb 2 (by omega)
  have ha3 := ha 3 (by omega)
  have hb3 := hb 3 (by omega)
  have ha4 := ha 4 (by omega)
  have hb4 := hb 4 (by omega)
  have ea := list5 a hla
  have eb := list5 b hlb
  generalize ra0 : rd a 0 = a0 at *
  generalize rb0 : rd b 0 = b0 at *
  generalize ra1 : rd a 1 = a1 at *
  generalize rb1 : rd b 1 = b1 at *
  generalize ra2 : rd a 2 = a2 at *
  generalize rb2 : rd b 2 = b2 at *
  generalize ra3 : rd a 3 = a3 at *
  generalize rb3 : rd b 3 = b3 at *
  generalize ra4 : rd a 4 = a4 at *
  generalize rb4 : rd b 4 = b4 at *
  have ho := toutTo_eq a0 a1 a2 a3 a4 b0 b1 b2 b3 b4 ha0 ha1 ha2 ha3 ha4 hb0 hb1 hb2 hb3 hb4
  rw [← ea, ← eb] at ho
  have hn := times_num a0 a1 a2 a3 a4 b0 b1 b2 b3 b4
  have p00 := prod_in a0 b0 ha0 hb0
  have p01 := prod_in a0 b1 ha0 hb1
  have p02 := prod_in a0 b2 ha0 hb2
  have p03 := prod_in a0 b3 ha0 hb3
  have p04 := prod_in a0 b4 ha0 hb4
  have p10 := prod_in a1 b0 ha1 hb0
  have p11 := prod_in a1 b1 ha1 hb1
  have p12 := prod_in a1 b2 ha1 hb2
  have p13 := prod_in a1 b3 ha1 hb3
  have p14 := prod_in a1 b4 ha1 hb4
  have p20 := prod_in a2 b0 ha2 hb0
  have p21 := prod_in a2 b1 ha2 hb1
  have p22 := prod_in a2 b2 ha2 hb2
  have p23 := prod_in a2 b3 ha2 hb3
  have p24 := prod_in a2 b4 ha2 hb4
  have p30 := prod_in a3 b0 ha3 hb0
  have p31 := prod_in a3 b1 ha3 hb1
  have p32 := prod_in a3 b2 ha3 hb2
  have p33 := prod_in a3 b3 ha3 hb3
  have p34 := prod_in a3 b4 ha3 hb4
  have p40 := prod_in a4 b0 ha4 hb0
  have p41 := prod_in a4 b1 ha4 hb1
  have p42 := prod_in a4 b2 ha4 hb2
  have p43 := prod_in a4 b3 ha4 hb3
  have p44 := prod_in a4 b4 ha4 hb4
  have hva : val5 a = a0 + a1 * 67108864 + a2 * 4503599627370496 + a3 * 302231454903657293676544 + a4 * 20282409603651670423947251286016 := by unfold val5; rw [ra0, ra1, ra2, ra3, ra4]
  have hvb : val5 b = b0 + b1 * 67108864 + b2 * 4503599627370496 + b3 * 302231454903657293676544 + b4 * 20282409603651670423947251286016 := by unfold val5; rw [rb0, rb1, rb2, rb3, rb4]
  rw [← hva, ← hvb] at hn
  clear hva hvb ea eb ha hb
  generalize a0 * b0 = t00 at *
  generalize a0 * b1 = t01 at *
  generalize a0 * b2 = t02 at *
  generalize a0 * b3 = t03 at *
  generalize a0 * b4 = t04 at *
  generalize a1 * b0 = t10 at *
  generalize a1 * b1 = t11 at *
  generalize a1 * b2 = t12 at *
  generalize a1 * b3 = t13 at *
  generalize a1 * b4 = t14 at *
  generalize a2 * b0 = t20 at *
  generalize a2 * b1 = t21 at *
  generalize a2 * b2 = t22 at *
  generalize a2 * b3 = t23 at *
  generalize a2 * b4 = t24 at *
  generalize a3 * b0 = t30 at *
  generalize a3 * b1 = t31 at *
  generalize a3 * b2 = t32 at *
  generalize a3 * b3 = t33 at *
  generalize a3 * b4 = t34 at *
  generalize a4 * b0 = t40 at *
  generalize a4 * b1 = t41 at *
  generalize a4 * b2 = t42 at *
  generalize a4 * b3 = t43 at *
  generalize a4 * b4 = t44 at *
  obtain ⟨x0, hx0⟩ : ∃ x, x = t00 + t14 * 5 + t23 * 5 + t32 * 5 + t41 * 5 := ⟨_, rfl⟩
  obtain ⟨x1, hx1⟩ : ∃ x, x = t01 + t10 + t24 * 5 + t33 * 5 + t42 * 5 := ⟨_, rfl⟩
  obtain ⟨x2, hx2⟩ : ∃ x, x = t02 + t11 + t20 + t34 * 5 + t43 * 5 := ⟨_, rfl⟩
  obtain ⟨x3, hx3⟩ : ∃ x, x = t03 + t12 + t21 + t30 + t44 * 5 := ⟨_, rfl⟩
  obtain ⟨x4, hx4⟩ : ∃ x, x = t04 + t13 + t22 + t31 + t40 := ⟨_, rfl⟩
  rw [← hx0, ← hx1, ← hx2, ← hx3, ← hx4] at ho hn
  have hbx : ∀ i, i < 5 → 0 ≤ rd (toutTo a b 5) i ∧ rd (toutTo a b 5) i < 4611686018427387904 := fun i hi => by
    have hh : i = 0 ∨ i = 1 ∨ i = 2 ∨ i = 3 ∨ i = 4 := by omega
    rw [ho]
    rcases hh with rfl | rfl | rfl | rfl | rfl
    · show 0 ≤ x0 ∧ x0 < 4611686018427387904; omega
    · show 0 ≤ x1 ∧ x1 < 4611686018427387904; omega
    · show 0 ≤ x2 ∧ x2 < 4611686018427387904; omega
    · show 0 ≤ x3 ∧ x3 < 4611686018427387904; omega
    · show 0 ≤ x4 ∧ x4 < 4611686018427387904; omega
  obtain ⟨⟨o, ho0, hov⟩, hnear⟩ := carry2_val (toutTo a b 5) (toutTo_length a b 5) hbx
  have hvo : val5 (toutTo a b 5) = x0 + x1 * 67108864 + x2 * 4503599627370496 + x3 * 302231454903657293676544 + x4 * 20282409603651670423947251286016 := by rw [ho]; rfl
  refine ⟨⟨o + (t14 + t23 + t24 * 67108864 + t32 + t33 * 67108864 + t34 * 4503599627370496 + t41 + t42 * 67108864 + t43 * 4503599627370496 + t44 * 302231454903657293676544), ?_⟩, hnear⟩
  have e : times a b = carryN (toutTo a b 5) 2 := rfl
  rw [e, hov, hn, Int.add_mul, hvo]
  unfold pP
  omega
end Go.Proofs.YtpmmmbilfblcpaaDoor
