/- The law StreamPieces. -/
import Derived.Test.YtpmmmbilfblcpaaStrF
import Derived.Test.YtpmmmbilfblcpaaStrG
import Derived.Test.YtpmmmbilfblcpaaNum
import Derived.Test.YtpmmmbilfblcpaaSame
namespace Go.Proofs.Ytpmmmbilfblcpaa
open Go.RowKit Go.Cour
attribute [local go_sem] max2_int min2_int
set_option maxHeartbeats 1000000 in
set_option maxRecDepth 100000 in
theorem streamPieces_calls (xs : List Int) (A : Option Addr) (m c : Nat) (q far : Int) (w : World) (hm : m = xs.length) (hA : A = none → c = 0) (hc : m ≤ c) (hr : Rd w A .u8 xs) (hl0 : m ≤ 9223372036854775807) :
    Calls Try.prog 3 #[.slice A m c, .int .i64 q, .int .i64 far] w fun e w' => e = .returned (.bool true) ∧ Below w.heap.size w w' := by
  by_cases hl : 200 < m
  · have hl1 : (200 : Int) < m := by omega
    go_enter Try.func3, Try.ntmps3
    go_wp2_with (first
      | (go_at_call 4; refine (first16_calls _).mono ?_; rintro e w1 ⟨rfl, hB1⟩)
      | fail)
    go_ret
    exact ⟨rfl, hB1⟩
  · have hl1 : ¬ (200 : Int) < m := by omega
    have hl2 : m ≤ 200 := by omega
    obtain ⟨Q, hQ⟩ : ∃ Q : Int, Hd (q % 70 = Q) := ⟨_, ⟨rfl⟩⟩
    have hQ1 : 0 ≤ Q ∧ Q < 70 := by have := hQ.out; omega
    obtain ⟨C, hC⟩ : ∃ C : Int, Q + 1 = C := ⟨_, rfl⟩
    have hC1 : 1 ≤ C ∧ C ≤ 70 := by omega
    obtain ⟨F, hF⟩ : ∃ F : Int, Hd (far % 1000 = F) := ⟨_, ⟨rfl⟩⟩
    have hF1 : 0 ≤ F ∧ F < 1000 := by have := hF.out; omega
    have HM := hid hm
    have HR := hid hr
    obtain ⟨N, hN⟩ : ∃ N : Nat, Hd (countI m C = (N : Int)) := ⟨(countI m C).toNat, ⟨by have := (countI_bounds m C).1; omega⟩⟩
    have hN1 : Hd (countI xs.length C = (N : Int)) := ⟨by rw [← hm]; exact hN.out⟩
    have hNb : 1 ≤ N ∧ N ≤ 200 := by have := countI_bounds m C; have := hN.out; omega
    clear hm hr
    go_enter Try.func3, Try.ntmps3
    go_wp2_with (first
      | (go_at_call 4; refine (first16_calls _).mono ?_; rintro e w1 ⟨rfl, hB1⟩)
      | (go_at_call 5; refine (number_calls _ _ _ (by omega) (by omega)).mono ?_; rintro e w2 ⟨rfl, rfl⟩; rw [hQ.out])
      | (go_at_call 6; refine (count_calls _ _ _ (by omega) (by omega)).mono ?_; rintro e w2 ⟨rfl, rfl⟩; rw [hN.out])
      | fail)
    go_loopg [9, 10, 11] (N + 1) (fun kq v9 v10 v11 wr => ∃ i : Nat, i ≤ N ∧ v10 = .int .i64 i ∧ Hd (kq + i = N + 1) ∧ Own wr w.heap.size 5 .u8 v9 (xs.take (i * C.toNat)) ∧ Below w.heap.size w wr)
    case atStart => exact ⟨0, by omega, rfl, hid (by omega), by rw [Nat.zero_mul]; exact Own.nil _ _ _ _, hB1⟩
    case round =>
      clear hB1
      obtain ⟨i, hi, rfl, hgq, ho, hB⟩ := hrel
      have HRr : Hd (Rd wr A .u8 xs) := ⟨HR.out.below hB⟩
      have hoT : Hd (i < N → xs.take (i * C.toNat) ++ pieceOf xs C i = xs.take ((i + 1) * C.toNat)) := ⟨fun h => take_piece xs C i hC1.1 (by rw [hN1.out]; omega)⟩
      by_cases hlt : i < N
      · have hlt' : (i : Int) < N := by omega
        obtain ⟨ps, hps⟩ : ∃ ps, Hd (pieceOf xs C i = ps) := ⟨_, ⟨rfl⟩⟩
        obtain ⟨P, hP⟩ : ∃ P, Hd (ps.length = P) := ⟨_, ⟨rfl⟩⟩
        have hpl := piece_len xs C i N hC1.1 hN1.out hlt
        rw [hps.out, hP.out, ← HM.out] at hpl
        have hoT1 := hid (hoT.out hlt)
        rw [hps.out] at hoT1
        obtain ⟨ts, hts⟩ : ∃ ts, Hd (ts = xs.take (i * C.toNat)) := ⟨_, ⟨rfl⟩⟩
        rw [← hts.out] at ho hoT1
        have htl : Hd (ts.length ≤ 200) := ⟨by rw [hts.out]; have := List.length_take_le' (i * C.toNat) xs; have := HM.out; omega⟩
        have hPm : P ≤ 200 := by have := pieceOf_le xs C i; rw [hps.out, hP.out, ← HM.out] at this; omega
        by_cases hl2 : i + 1 < N
        · have hPC : (P : Int) = C := hpl.2.1 hl2
          have hne : ((i : Int) == (N : Int) - 1) = false := by rw [beq_eq_false_iff_ne]; omega
          have hlt2 : (i : Int) < (N : Int) - 1 := by omega
          clear hpl
          go_wp2_with (first
            | (go_at_call 7; refine (piece_calls xs A _ c _ _ wr HM.out hA hc HRr.out (by rw [← HM.out]; omega) (by omega) (by omega)).mono ?_
               rintro e w3 ⟨v, rfl, ho1, hB1⟩
               rw [hps.out] at ho1
               obtain ⟨A1, c1, rfl, hc1, hA1, hr1⟩ := ho1.parts
               have hz := below_then hB hB.size hB1
               have ho2 := ho.below hB1
               rw [hP.out])
            | (at_builtin; refine append_list rfl (.tmp 67) (.tmp 68) 22 rfl w.heap.size 5 .u8 1 undBytes infoU8 u9 ts rfl ho2 A1 P c1 ps rfl hP.out.symm hA1 hr1 (by rw [hP.out]; have := htl.out; omega) (by rw [hP.out]; have := htl.out; omega) hz.size ?_
               intro v' w4 ho4 hg4
               rw [hoT1.out] at ho4)
            | fail)
          go_roundg (gk - 1)
          case measure => have := hgq.out; omega
          case rel => exact ⟨i + 1, by omega, by go_num, hid (by have := hgq.out; omega), ho4, ho2.grown_below hz hg4 hz.size (Nat.le_refl _)⟩
        · have hne : ((i : Int) == (N : Int) - 1) = true := by rw [beq_iff_eq]; omega
          have hlt2 : ¬ (i : Int) < (N : Int) - 1 := by omega
          have hPC : ¬ C < (P : Int) := by omega
          have hz0 := hpl.2.2 (by omega)
          clear hpl
          by_cases hP0 : P = 0
          · have hP1 : ((P : Int) == 0) = true := by rw [beq_iff_eq]; omega
            obtain rfl := hz0 hP0
            clear hz0 hP0
            go_wp2_with (first
              | (go_at_call 7; refine (piece_calls xs A _ c _ _ wr HM.out hA hc HRr.out (by rw [← HM.out]; omega) (by omega) (by omega)).mono ?_
                 rintro e w3 ⟨v, rfl, ho1, hB1⟩
                 rw [hps.out] at ho1
                 obtain ⟨A1, c1, rfl, hc1, hA1, hr1⟩ := ho1.parts
                 have hz := below_then hB hB.size hB1
                 have ho2 := ho.below hB1
                 rw [hP.out])
              | (at_builtin; refine append_list rfl (.tmp 67) (.tmp 68) 22 rfl w.heap.size 5 .u8 1 undBytes infoU8 u9 ts rfl ho2 A1 P c1 ps rfl hP.out.symm hA1 hr1 (by rw [hP.out]; have := htl.out; omega) (by rw [hP.out]; have := htl.out; omega) hz.size ?_
                 intro v' w4 ho4 hg4
                 rw [hoT1.out] at ho4)
              | fail)
            go_roundg (gk - 1)
            case measure => have := hgq.out; omega
            case rel => exact ⟨i + 1, by omega, by go_num, hid (by have := hgq.out; omega), ho4, ho2.grown_below hz hg4 hz.size (Nat.le_refl _)⟩
          · have hP1 : ((P : Int) == 0) = false := by rw [beq_eq_false_iff_ne]; omega
            clear hz0
            go_wp2_with (first
              | (go_at_call 7; refine (piece_calls xs A _ c _ _ wr HM.out hA hc HRr.out (by rw [← HM.out]; omega) (by omega) (by omega)).mono ?_
                 rintro e w3 ⟨v, rfl, ho1, hB1⟩
                 rw [hps.out] at ho1
                 obtain ⟨A1, c1, rfl, hc1, hA1, hr1⟩ := ho1.parts
                 have hz := below_then hB hB.size hB1
                 have ho2 := ho.below hB1
                 rw [hP.out])
              | (at_builtin; refine append_list rfl (.tmp 67) (.tmp 68) 22 rfl w.heap.size 5 .u8 1 undBytes infoU8 u9 ts rfl ho2 A1 P c1 ps rfl hP.out.symm hA1 hr1 (by rw [hP.out]; have := htl.out; omega) (by rw [hP.out]; have := htl.out; omega) hz.size ?_
                 intro v' w4 ho4 hg4
                 rw [hoT1.out] at ho4)
              | fail)
            go_roundg (gk - 1)
            case measure => have := hgq.out; omega
            case rel => exact ⟨i + 1, by omega, by go_num, hid (by have := hgq.out; omega), ho4, ho2.grown_below hz hg4 hz.size (Nat.le_refl _)⟩
      · obtain rfl : i = N := by omega
        clear hlt hoT
        rw [take_all xs C i hC1.1 hN1.out] at ho
        obtain ⟨A9, c9, hv9, _, hA9, hr9⟩ := ho.parts
        rw [← HM.out] at hv9
        subst hv9
        have hr9 := hid hr9
        have hpf := piece_far xs C i F hC1.1 hN1.out hF1.1
        have hpn := piece_neg xs C (-1 - F) (by omega)
        obtain ⟨mx, hmx⟩ : ∃ mx : Int, Hd (mx = max (m : Int) 1) := ⟨_, ⟨rfl⟩⟩
        have hc0 : countI (m : Int) 0 = mx := by rw [count_zero, hmx.out]
        have hc1 : countI (-F - 1) C = 1 := count_neg _ _ (by omega)
        have hmx1 : (if (m : Int) < 1 then (1 : Int) else m) = mx := by rw [hmx.out]; split <;> omega
        have hpf := hid hpf
        have hpn := hid hpn
        go_wp2_with (first
          | (go_at_call 5; (refine (number_calls _ _ _ (by omega) (by omega)).mono ?_; rintro e w2 ⟨rfl, hw2⟩; subst w2; rw [hF.out]))
          | (go_at_call 8; refine (same_calls xs xs A9 A c9 c m m _ HM.out HM.out hr9.out HRr.out (by rw [← HM.out]; omega) (by rw [← HM.out]; omega)).mono ?_
             rintro e w3 ⟨he3, qd, hqd⟩
             rw [decide_eq_true (rfl : xs = xs)] at he3
             subst he3
             have hB3 : Below wr.heap.size wr w3 := by rw [hqd]; exact below_drewN (Below.refl _ _) qd
             clear hqd)
          | (go_at_call 7; refine (piece_calls xs A _ c _ _ w5 HM.out hA hc (HRr.out.below hB5) (by rw [← HM.out]; omega) (by omega) (by omega)).mono ?_
             rintro e w6 ⟨v6, rfl, ho6, hB6⟩
             rw [hpn.out] at ho6
             obtain ⟨A6, c6, rfl, _⟩ := ho6.parts
             have hB7 := below_then hB5 hB5.size hB6
             simp only [List.length_nil])
          | (go_at_call 7; refine (piece_calls xs A _ c _ _ w3 HM.out hA hc (HRr.out.below hB3) (by rw [← HM.out]; omega) (by omega) (by omega)).mono ?_
             rintro e w5 ⟨v5, rfl, ho5, hB4⟩
             rw [hpf.out] at ho5
             obtain ⟨A5, c5, rfl, _⟩ := ho5.parts
             have hB5 := below_then hB3 hB3.size hB4
             simp only [List.length_nil])
          | (go_at_call 6; refine (count_calls _ _ _ (by omega) (by omega)).mono ?_; rintro e w8 ⟨rfl, hw8⟩; subst w8)
          | fail)
        go_ret
        exact ⟨rfl, below_then hB hB.size hB7⟩
end Go.Proofs.Ytpmmmbilfblcpaa
