import Derived.Test.YtofpmigifimfoaaMgPR0
import Derived.Test.YtofpmigifimfoaaMgPR1
set_option linter.unusedSimpArgs false
set_option linter.unusedVariables false
/- The law PacePlays. -/
namespace Go.Proofs.Ytofpmigifimfoaa
open Go.RowKit Go.Cour
theorem numberN_calls (a b : Int) (w : World) (hb : 0 < b) (hb2 : b < 4611686018427387904) : Calls Try.prog 9 #[.int .i64 a, .int .i64 b] w fun e w' => ∃ k : Nat, (k : Int) < b ∧ e = .returned (.int .i64 (k : Int)) ∧ w = w' :=
  (number_calls a b w hb hb2).mono fun e w' ⟨h1, h2⟩ => ⟨(a % b).toNat, by have := Int.emod_nonneg a (show b ≠ 0 by omega); have := Int.emod_lt_of_pos a hb; omega, by rw [h1]; have := Int.emod_nonneg a (show b ≠ 0 by omega); congr 2; omega, h2.symm⟩
theorem delayOf_b (t : Int) : 1 ≤ delayOf t ∧ delayOf t ≤ 64 := by
  unfold delayOf
  split
  · omega
  · split
    · omega
    · obtain ⟨p, hp, p1, p2, _⟩ := pow_small t.toNat (by omega) (by omega)
      rw [show (t - 1).toNat = t.toNat - 1 by omega, hp]
      omega
theorem builtPace (a b : Int) : Try.prog.built 27 [(0, .int .i64 a), (1, .int .i64 b)] = some (paceC a b).toArray := by kernel_rfl
theorem builtPace16 (a b : Int) : Try.prog.built 29 [(0, .int .i64 a), (1, .int .i64 b)] = some (paceC a b).toArray := by kernel_rfl
theorem builtPace16Z : Try.prog.built 29 [] = some (paceC 0 0).toArray := by kernel_rfl
set_option maxHeartbeats 10000000 in
set_option maxRecDepth 100000 in
theorem pacePlays_calls (tries wait : Int) (ks : List Int) (A : Option Addr) (n c : Nat) {w : World} (hn : ks.length = n) (hr : Rd w A .i64 ks) :
    Calls Try.prog 3 #[.int .i64 tries, .int .i64 wait, .slice A n c] w fun e w' => e = .returned (.bool true) ∧ Below w.heap.size w w' := by
  have hS := HS.start NoF w
  have HN := hid hn
  have HR := hid hr
  clear hn hr
  by_cases hl : 100 < n
  · have hl2 : (100 : Int) < n := by omega
    go_enter Try.func3, Try.ntmps3
    go_wp2_with (first
      | (go_at_call 8; refine (first23_calls _).mono ?_; rintro e w2 ⟨rfl, hB⟩; replace hS := hS.below hB; clear hB)
      | fail)
    go_ret
    exact ⟨rfl, hS.bel⟩
  · have hl2 : ¬ (100 : Int) < n := by omega
    have hl3 : n ≤ 100 := by omega
    go_enter Try.func3, Try.ntmps3
    go_wp2_with (first
      | (go_at_call 8; refine (first23_calls _).mono ?_; rintro e w2 ⟨rfl, hB⟩; replace hS := hS.below hB; clear hB)
      | (have _ := mk0; go_at_call 9; (refine (numberN_calls _ 100 _ (by omega) (by omega)).mono ?_); rintro e wz ⟨k2, hk2, rfl, rfl⟩; have mk1 : True := trivial)
      | (go_at_call 9; (refine (numberN_calls _ 2000 _ (by omega) (by omega)).mono ?_); rintro e wz ⟨k1, hk1, rfl, rfl⟩; have mk0 : True := trivial)
      | (refine build_to rfl 27 _ rfl (paceC _ _).toArray (by rw [Array.toList_map]; exact builtPace _ _) ?_)
      | (refine build_to rfl 29 _ rfl (paceC _ _).toArray (by rw [Array.toList_map]; exact builtPace16 _ _) ?_)
      | (refine box_blk rfl 27 _ rfl _ rfl (paceC _ _) rfl ?_; intro gp w3 hga hba hBa hsa; replace hS := hS.pushBlk hBa hba hga; clear hga hba hBa hsa)
      | (refine box_blk rfl 29 _ rfl _ rfl (paceC _ _) rfl ?_; intro gx w4 hga hba hBa hsa; replace hS := hS.pushBlk hBa hba hga; clear hga hba hBa hsa)
      | fail)
    clear mk0 mk1
    obtain ⟨tr0, htr0⟩ : ∃ t : Int, (k1 : Int) - 20 = t := ⟨_, rfl⟩
    obtain ⟨wt0, hwt0⟩ : ∃ t : Int, (k2 : Int) - 3 = t := ⟨_, rfl⟩
    have htb : -20 ≤ tr0 ∧ tr0 ≤ 1980 := by omega
    have hwb : -3 ≤ wt0 ∧ wt0 ≤ 100 := by omega
    rw [htr0, hwt0] at hS ⊢
    clear htr0 hwt0
    go_loopg [9, 10] (n + 1) (fun kq v9 v10 wr => ∃ (i gx : Nat) (tr wt : Int), i ≤ n ∧ v10 = .int .i64 i ∧ v9 = .pointer (some ⟨gx, 0, none⟩) ∧ -20 ≤ tr ∧ tr ≤ 1980 + i ∧ -3 ≤ wt ∧ wt ≤ 100 ∧ Hd (kq + i = n + 1) ∧ HS NoF w wr [.blk gx 29 (paceC tr wt), .blk gp 27 (paceC tr wt)])
    case atStart => exact ⟨0, gx, tr0, wt0, Nat.zero_le _, rfl, rfl, htb.1, by omega, hwb.1, hwb.2, hid (by omega), hS⟩
    case round =>
      clear hS
      obtain ⟨i, gx, tr, wt, hi, rfl, rfl, ht1, ht2, hw1, hw2, hq, hS⟩ := hrel
      by_cases hlt : i < n
      · have hlt2 : (i : Int) < n := by omega
        obtain ⟨g1, o1, rfl⟩ := HR.out.at (by rw [HN.out]; omega)
        obtain ⟨x, hx⟩ : ∃ x, Hd (rd ks i = x) := ⟨_, hid rfl⟩
        have hcell0 := HR.out.cellAt i (by rw [HN.out]; exact hlt)
        rw [hx.out] at hcell0
        have hcw := hS.oldCell hcell0 (fun h => h)
        clear hcell0
        go_wp2_with fail
        refine (numberN_calls _ 10 _ (by omega) (by omega)).mono ?_
        rintro e wz ⟨k, hk, rfl, rfl⟩
        clear hcw
        by_cases hk0 : k = 0
        · subst hk0
          go_wp2_with fail
          refine (pFailH gp tr wt 1 hS rfl (by omega)).mono ?_
          rintro e w5 ⟨rfl, hSn⟩
          clear hS
          have hS : HS NoF w w5 [.blk gx 29 (paceC tr wt), .blk gp 27 (paceC (tr + 1) (delayOf (tr + 1)))] := hSn
          clear hSn
          go_wp2_with fail
          refine (rFailH gx tr wt 0 hS rfl (by omega)).mono ?_
          rintro e w6 ⟨rfl, hSn⟩
          clear hS
          have hdb := delayOf_b (tr + 1)
          obtain ⟨tr1, htr1⟩ : ∃ t : Int, tr + 1 = t := ⟨_, rfl⟩
          obtain ⟨wt1, hwt1⟩ : ∃ t : Int, delayOf tr1 = t := ⟨_, rfl⟩
          rw [htr1, hwt1] at hdb
          have hS : HS NoF w w6 [.blk gx 29 (paceC tr1 wt1), .blk gp 27 (paceC tr1 wt1)] := by rw [← hwt1, ← htr1]; exact hSn
          clear hSn
          rw [htr1]
          have htr2 : -20 ≤ tr1 ∧ tr1 ≤ 1980 + (i + 1) := by omega
          clear htr1 hwt1
          go_wp2_with fail
          try go_wp2_with fail
          refine wp_region_S (F := NoF) (w0 := w) (L0 := [.blk gx 29 (paceC tr1 wt1), .blk gp 27 (paceC tr1 wt1)]) [22] []
            (fun iK u E => match iK with
              | 22 => u = .bool ((wt1) == 0) ∧ E = []
              | _ => False)
            ([]) (by kernel_rfl) (by kernel_rfl) hS ?_
          show wpS _ _ _ _ _ _ _ _ _ _ [0, 1, 2, 3, 4, 5, 6, 7, 8, 9, 10, 11, 12, 13, 14, 15, 16, 17, 18, 19, 20, 21, 22, 23, 24, 25, 26, 27, 28, 29] _
          apply wpS_read (i := 0) rfl rfl ⟨_, hS⟩ rfl -- Op.move t8
          · intro w' hT'
            simp only [List.getElem_toArray, List.getElem_cons_zero, List.getElem_cons_succ]
            go_wp2_with fail
            first | exact ⟨rfl, rfl, rfl⟩ | rfl
          apply wpS_read (i := 1) rfl rfl ⟨_, hS⟩ rfl -- Op.nilCheck t64
          · intro w' hT'
            simp only [List.getElem_toArray, List.getElem_cons_zero, List.getElem_cons_succ]
            go_wp2_with fail
            first | exact ⟨rfl, rfl, rfl⟩ | rfl
          apply wpS_read (i := 2) rfl rfl ⟨_, hS⟩ rfl -- Op.fieldAddr 27 t65 0
          · intro w' hT'
            simp only [List.getElem_toArray, List.getElem_cons_zero, List.getElem_cons_succ]
            go_wp2_with fail
            first | exact ⟨rfl, rfl, rfl⟩ | rfl
          apply wpS_read (i := 3) rfl rfl ⟨_, hS⟩ rfl -- Op.load 3 t66
          · intro w' hT'
            simp only [List.getElem_toArray, List.getElem_cons_zero, List.getElem_cons_succ]
            have cx0 : w'.cell? ⟨gx, 0, none⟩ = some (.int .i64 (tr1)) := hT'.cell 0 rfl 0
            have cx1 : w'.cell? ⟨gx, 1, none⟩ = some (.int .i64 (wt1)) := hT'.cell 0 rfl 1
            have cp0 : w'.cell? ⟨gp, 0, none⟩ = some (.int .i64 (tr1)) := hT'.cell 1 rfl 0
            have cp1 : w'.cell? ⟨gp, 1, none⟩ = some (.int .i64 (wt1)) := hT'.cell 1 rfl 1
            go_wp2_with fail
            first | exact ⟨rfl, rfl, rfl⟩ | rfl
          apply wpS_read (i := 4) rfl rfl ⟨_, hS⟩ rfl -- Op.move t9
          · intro w' hT'
            simp only [List.getElem_toArray, List.getElem_cons_zero, List.getElem_cons_succ]
            go_wp2_with fail
            first | exact ⟨rfl, rfl, rfl⟩ | rfl
          apply wpS_read (i := 5) rfl rfl ⟨_, hS⟩ rfl -- Op.nilCheck t68
          · intro w' hT'
            simp only [List.getElem_toArray, List.getElem_cons_zero, List.getElem_cons_succ]
            go_wp2_with fail
            first | exact ⟨rfl, rfl, rfl⟩ | rfl
          apply wpS_read (i := 6) rfl rfl ⟨_, hS⟩ rfl -- Op.fieldAddr 29 t69 0
          · intro w' hT'
            simp only [List.getElem_toArray, List.getElem_cons_zero, List.getElem_cons_succ]
            go_wp2_with fail
            first | exact ⟨rfl, rfl, rfl⟩ | rfl
          apply wpS_read (i := 7) rfl rfl ⟨_, hS⟩ rfl -- Op.load 3 t70
          · intro w' hT'
            simp only [List.getElem_toArray, List.getElem_cons_zero, List.getElem_cons_succ]
            have cx0 : w'.cell? ⟨gx, 0, none⟩ = some (.int .i64 (tr1)) := hT'.cell 0 rfl 0
            have cx1 : w'.cell? ⟨gx, 1, none⟩ = some (.int .i64 (wt1)) := hT'.cell 0 rfl 1
            have cp0 : w'.cell? ⟨gp, 0, none⟩ = some (.int .i64 (tr1)) := hT'.cell 1 rfl 0
            have cp1 : w'.cell? ⟨gp, 1, none⟩ = some (.int .i64 (wt1)) := hT'.cell 1 rfl 1
            go_wp2_with fail
            first | exact ⟨rfl, rfl, rfl⟩ | rfl
          apply wpS_read (i := 8) rfl rfl ⟨_, hS⟩ rfl -- Op.binOp BinOp.neq 3 t67 t71 3
          · intro w' hT'
            simp only [List.getElem_toArray, List.getElem_cons_zero, List.getElem_cons_succ]
            go_wp2_with fail
            first | exact ⟨rfl, rfl, rfl⟩ | rfl
          apply wpS_read (i := 9) rfl rfl ⟨_, hS⟩ rfl -- Op.move t72
          · intro w' hT'
            simp only [List.getElem_toArray, List.getElem_cons_zero, List.getElem_cons_succ]
            go_wp2_with fail
            first | exact ⟨rfl, rfl, rfl⟩ | rfl
          apply wpS_read (i := 10) rfl rfl ⟨_, hS⟩ rfl -- Op.move t8
          · intro w' hT'
            simp only [List.getElem_toArray, List.getElem_cons_zero, List.getElem_cons_succ]
            go_wp2_with fail
            first | exact ⟨rfl, rfl, rfl⟩ | rfl
          apply wpS_read (i := 11) rfl rfl ⟨_, hS⟩ rfl -- Op.nilCheck t74
          · intro w' hT'
            simp only [List.getElem_toArray, List.getElem_cons_zero, List.getElem_cons_succ]
            go_wp2_with fail
            first | exact ⟨rfl, rfl, rfl⟩ | rfl
          apply wpS_read (i := 12) rfl rfl ⟨_, hS⟩ rfl -- Op.fieldAddr 27 t75 1
          · intro w' hT'
            simp only [List.getElem_toArray, List.getElem_cons_zero, List.getElem_cons_succ]
            go_wp2_with fail
            first | exact ⟨rfl, rfl, rfl⟩ | rfl
          apply wpS_read (i := 13) rfl rfl ⟨_, hS⟩ rfl -- Op.load 3 t76
          · intro w' hT'
            simp only [List.getElem_toArray, List.getElem_cons_zero, List.getElem_cons_succ]
            have cx0 : w'.cell? ⟨gx, 0, none⟩ = some (.int .i64 (tr1)) := hT'.cell 0 rfl 0
            have cx1 : w'.cell? ⟨gx, 1, none⟩ = some (.int .i64 (wt1)) := hT'.cell 0 rfl 1
            have cp0 : w'.cell? ⟨gp, 0, none⟩ = some (.int .i64 (tr1)) := hT'.cell 1 rfl 0
            have cp1 : w'.cell? ⟨gp, 1, none⟩ = some (.int .i64 (wt1)) := hT'.cell 1 rfl 1
            go_wp2_with fail
            first | exact ⟨rfl, rfl, rfl⟩ | rfl
          apply wpS_read (i := 14) rfl rfl ⟨_, hS⟩ rfl -- Op.move t9
          · intro w' hT'
            simp only [List.getElem_toArray, List.getElem_cons_zero, List.getElem_cons_succ]
            go_wp2_with fail
            first | exact ⟨rfl, rfl, rfl⟩ | rfl
          apply wpS_read (i := 15) rfl rfl ⟨_, hS⟩ rfl -- Op.nilCheck t78
          · intro w' hT'
            simp only [List.getElem_toArray, List.getElem_cons_zero, List.getElem_cons_succ]
            go_wp2_with fail
            first | exact ⟨rfl, rfl, rfl⟩ | rfl
          apply wpS_read (i := 16) rfl rfl ⟨_, hS⟩ rfl -- Op.fieldAddr 29 t79 1
          · intro w' hT'
            simp only [List.getElem_toArray, List.getElem_cons_zero, List.getElem_cons_succ]
            go_wp2_with fail
            first | exact ⟨rfl, rfl, rfl⟩ | rfl
          apply wpS_read (i := 17) rfl rfl ⟨_, hS⟩ rfl -- Op.load 3 t80
          · intro w' hT'
            simp only [List.getElem_toArray, List.getElem_cons_zero, List.getElem_cons_succ]
            have cx0 : w'.cell? ⟨gx, 0, none⟩ = some (.int .i64 (tr1)) := hT'.cell 0 rfl 0
            have cx1 : w'.cell? ⟨gx, 1, none⟩ = some (.int .i64 (wt1)) := hT'.cell 0 rfl 1
            have cp0 : w'.cell? ⟨gp, 0, none⟩ = some (.int .i64 (tr1)) := hT'.cell 1 rfl 0
            have cp1 : w'.cell? ⟨gp, 1, none⟩ = some (.int .i64 (wt1)) := hT'.cell 1 rfl 1
            go_wp2_with fail
            first | exact ⟨rfl, rfl, rfl⟩ | rfl
          apply wpS_read (i := 18) rfl rfl ⟨_, hS⟩ rfl -- Op.binOp BinOp.neq 3 t77 t81 3
          · intro w' hT'
            simp only [List.getElem_toArray, List.getElem_cons_zero, List.getElem_cons_succ]
            go_wp2_with fail
            first | exact ⟨rfl, rfl, rfl⟩ | rfl
          apply wpS_read (i := 19) rfl rfl ⟨_, hS⟩ rfl -- Op.pick t73 (const (Value.bool true)) t82
          · intro w' hT'
            simp only [List.getElem_toArray, List.getElem_cons_zero, List.getElem_cons_succ]
            go_wp2_with fail
            first | exact ⟨rfl, rfl, rfl⟩ | rfl
          apply wpS_read (i := 20) rfl rfl ⟨_, hS⟩ rfl -- Op.move t83
          · intro w' hT'
            simp only [List.getElem_toArray, List.getElem_cons_zero, List.getElem_cons_succ]
            go_wp2_with fail
            first | exact ⟨rfl, rfl, rfl⟩ | rfl
          apply wpS_read (i := 21) rfl rfl ⟨_, hS⟩ rfl -- Op.move t8
          · intro w' hT'
            simp only [List.getElem_toArray, List.getElem_cons_zero, List.getElem_cons_succ]
            go_wp2_with fail
            first | exact ⟨rfl, rfl, rfl⟩ | rfl
          refine wpS_soft (i := 22) rfl rfl rfl (Nat.le_of_ble_eq_true rfl) ?_ ?_ -- Op.call { value (Operand.func 15), args := #[t85], argTypes := #[25]
          · intro w' hT
            simp only [List.getElem_toArray, List.getElem_cons_zero, List.getElem_cons_succ]
            go_wp2_with (first
              | (go_at_call 15; refine (pReadyH gp (tr1) (wt1) 1 hT rfl).mono ?_; rintro e wq ⟨rfl, rfl⟩)
              | fail)
            exact SoftP.mk' (.bool ((wt1) == 0)) ([]) rfl (⟨rfl, rfl⟩) (hT) (Below.refl _ _) (fun _ h => by cases h)
          intro u22 E22 hK22
          obtain ⟨rfl, rfl⟩ := hK22
          simp only [Act.put, List.setIfInBounds_toArray, List.set_cons_zero, List.set_cons_succ]
          apply wpS_read (i := 23) rfl rfl ⟨_, hS⟩ rfl -- Op.move t9
          · intro w' hT'
            simp only [List.getElem_toArray, List.getElem_cons_zero, List.getElem_cons_succ]
            go_wp2_with fail
            first | exact ⟨rfl, rfl, rfl⟩ | rfl
          apply wpS_read (i := 24) rfl rfl ⟨_, hS⟩ rfl -- Op.nilCheck t87
          · intro w' hT'
            simp only [List.getElem_toArray, List.getElem_cons_zero, List.getElem_cons_succ]
            go_wp2_with fail
            first | exact ⟨rfl, rfl, rfl⟩ | rfl
          apply wpS_read (i := 25) rfl rfl ⟨_, hS⟩ rfl -- Op.fieldAddr 29 t88 1
          · intro w' hT'
            simp only [List.getElem_toArray, List.getElem_cons_zero, List.getElem_cons_succ]
            go_wp2_with fail
            first | exact ⟨rfl, rfl, rfl⟩ | rfl
          apply wpS_read (i := 26) rfl rfl ⟨_, hS⟩ rfl -- Op.load 3 t89
          · intro w' hT'
            simp only [List.getElem_toArray, List.getElem_cons_zero, List.getElem_cons_succ]
            have cx0 : w'.cell? ⟨gx, 0, none⟩ = some (.int .i64 (tr1)) := hT'.cell 0 rfl 0
            have cx1 : w'.cell? ⟨gx, 1, none⟩ = some (.int .i64 (wt1)) := hT'.cell 0 rfl 1
            have cp0 : w'.cell? ⟨gp, 0, none⟩ = some (.int .i64 (tr1)) := hT'.cell 1 rfl 0
            have cp1 : w'.cell? ⟨gp, 1, none⟩ = some (.int .i64 (wt1)) := hT'.cell 1 rfl 1
            go_wp2_with fail
            first | exact ⟨rfl, rfl, rfl⟩ | rfl
          apply wpS_read (i := 27) rfl rfl ⟨_, hS⟩ rfl -- Op.binOp BinOp.eql 3 t90 (const (0:i64)) 3
          · intro w' hT'
            simp only [List.getElem_toArray, List.getElem_cons_zero, List.getElem_cons_succ]
            go_wp2_with fail
            first | exact ⟨rfl, rfl, rfl⟩ | rfl
          apply wpS_read (i := 28) rfl rfl ⟨_, hS⟩ rfl -- Op.binOp BinOp.neq 4 t86 t91 4
          · intro w' hT'
            simp only [List.getElem_toArray, List.getElem_cons_zero, List.getElem_cons_succ]
            go_wp2_with fail
            first | exact ⟨rfl, rfl, rfl⟩ | rfl
          apply wpS_read (i := 29) rfl rfl ⟨_, hS⟩ rfl -- Op.pick t84 (const (Value.bool true)) t92
          · intro w' hT'
            simp only [List.getElem_toArray, List.getElem_cons_zero, List.getElem_cons_succ]
            go_wp2_with fail
            first | exact ⟨rfl, rfl, rfl⟩ | rfl
          refine wpS_end ?_
          intro wv hT
          try dsimp only
          clear hS
          have hS : HS NoF w wv [.blk gx 29 (paceC tr1 wt1), .blk gp 27 (paceC tr1 wt1)] := hT
          clear hT
          go_wp2_with fail
          go_roundg (gk - 1)
          case measure => have := hq.out; omega
          case rel => exact ⟨i + 1, gx, tr1, wt1, by omega, by go_num, rfl, by omega, by omega, by omega, by omega, hid (by have := hq.out; omega), hS⟩
        · by_cases hk1 : k = 1
          · subst hk1
            go_wp2_with fail
            refine (pGoodH gp tr wt 1 hS rfl).mono ?_
            rintro e w5 ⟨rfl, hSn⟩
            clear hS
            have hS : HS NoF w w5 [.blk gp 27 (paceC 0 0)] := hSn.erase 0
            clear hSn
            go_wp2_with (first
              | (refine build_to rfl 29 _ rfl (paceC 0 0).toArray (by rw [Array.toList_map]; exact builtPace16Z) ?_)
              | (refine box_blk rfl 29 _ rfl _ rfl (paceC _ _) rfl ?_; intro gy w6 hga hba hBa hsa; replace hS := hS.pushBlk hBa hba hga; clear hga hba hBa hsa)
              | fail)
            replace hS : HS NoF w w6 [.blk gy 29 (paceC 0 0), .blk gp 27 (paceC 0 0)] := hS
            try go_wp2_with fail
            refine wp_region_S (F := NoF) (w0 := w) (L0 := [.blk gy 29 (paceC 0 0), .blk gp 27 (paceC 0 0)]) [22] []
              (fun iK u E => match iK with
                | 22 => u = .bool ((0) == 0) ∧ E = []
                | _ => False)
              ([]) (by kernel_rfl) (by kernel_rfl) hS ?_
            show wpS _ _ _ _ _ _ _ _ _ _ [0, 1, 2, 3, 4, 5, 6, 7, 8, 9, 10, 11, 12, 13, 14, 15, 16, 17, 18, 19, 20, 21, 22, 23, 24, 25, 26, 27, 28, 29] _
            apply wpS_read (i := 0) rfl rfl ⟨_, hS⟩ rfl -- Op.move t8
            · intro w' hT'
              simp only [List.getElem_toArray, List.getElem_cons_zero, List.getElem_cons_succ]
              go_wp2_with fail
              first | exact ⟨rfl, rfl, rfl⟩ | rfl
            apply wpS_read (i := 1) rfl rfl ⟨_, hS⟩ rfl -- Op.nilCheck t64
            · intro w' hT'
              simp only [List.getElem_toArray, List.getElem_cons_zero, List.getElem_cons_succ]
              go_wp2_with fail
              first | exact ⟨rfl, rfl, rfl⟩ | rfl
            apply wpS_read (i := 2) rfl rfl ⟨_, hS⟩ rfl -- Op.fieldAddr 27 t65 0
            · intro w' hT'
              simp only [List.getElem_toArray, List.getElem_cons_zero, List.getElem_cons_succ]
              go_wp2_with fail
              first | exact ⟨rfl, rfl, rfl⟩ | rfl
            apply wpS_read (i := 3) rfl rfl ⟨_, hS⟩ rfl -- Op.load 3 t66
            · intro w' hT'
              simp only [List.getElem_toArray, List.getElem_cons_zero, List.getElem_cons_succ]
              have cx0 : w'.cell? ⟨gy, 0, none⟩ = some (.int .i64 (0)) := hT'.cell 0 rfl 0
              have cx1 : w'.cell? ⟨gy, 1, none⟩ = some (.int .i64 (0)) := hT'.cell 0 rfl 1
              have cp0 : w'.cell? ⟨gp, 0, none⟩ = some (.int .i64 (0)) := hT'.cell 1 rfl 0
              have cp1 : w'.cell? ⟨gp, 1, none⟩ = some (.int .i64 (0)) := hT'.cell 1 rfl 1
              go_wp2_with fail
              first | exact ⟨rfl, rfl, rfl⟩ | rfl
            apply wpS_read (i := 4) rfl rfl ⟨_, hS⟩ rfl -- Op.move t9
            · intro w' hT'
              simp only [List.getElem_toArray, List.getElem_cons_zero, List.getElem_cons_succ]
              go_wp2_with fail
              first | exact ⟨rfl, rfl, rfl⟩ | rfl
            apply wpS_read (i := 5) rfl rfl ⟨_, hS⟩ rfl -- Op.nilCheck t68
            · intro w' hT'
              simp only [List.getElem_toArray, List.getElem_cons_zero, List.getElem_cons_succ]
              go_wp2_with fail
              first | exact ⟨rfl, rfl, rfl⟩ | rfl
            apply wpS_read (i := 6) rfl rfl ⟨_, hS⟩ rfl -- Op.fieldAddr 29 t69 0
            · intro w' hT'
              simp only [List.getElem_toArray, List.getElem_cons_zero, List.getElem_cons_succ]
              go_wp2_with fail
              first | exact ⟨rfl, rfl, rfl⟩ | rfl
            apply wpS_read (i := 7) rfl rfl ⟨_, hS⟩ rfl -- Op.load 3 t70
            · intro w' hT'
              simp only [List.getElem_toArray, List.getElem_cons_zero, List.getElem_cons_succ]
              have cx0 : w'.cell? ⟨gy, 0, none⟩ = some (.int .i64 (0)) := hT'.cell 0 rfl 0
              have cx1 : w'.cell? ⟨gy, 1, none⟩ = some (.int .i64 (0)) := hT'.cell 0 rfl 1
              have cp0 : w'.cell? ⟨gp, 0, none⟩ = some (.int .i64 (0)) := hT'.cell 1 rfl 0
              have cp1 : w'.cell? ⟨gp, 1, none⟩ = some (.int .i64 (0)) := hT'.cell 1 rfl 1
              go_wp2_with fail
              first | exact ⟨rfl, rfl, rfl⟩ | rfl
            apply wpS_read (i := 8) rfl rfl ⟨_, hS⟩ rfl -- Op.binOp BinOp.neq 3 t67 t71 3
            · intro w' hT'
              simp only [List.getElem_toArray, List.getElem_cons_zero, List.getElem_cons_succ]
              go_wp2_with fail
              first | exact ⟨rfl, rfl, rfl⟩ | rfl
            apply wpS_read (i := 9) rfl rfl ⟨_, hS⟩ rfl -- Op.move t72
            · intro w' hT'
              simp only [List.getElem_toArray, List.getElem_cons_zero, List.getElem_cons_succ]
              go_wp2_with fail
              first | exact ⟨rfl, rfl, rfl⟩ | rfl
            apply wpS_read (i := 10) rfl rfl ⟨_, hS⟩ rfl -- Op.move t8
            · intro w' hT'
              simp only [List.getElem_toArray, List.getElem_cons_zero, List.getElem_cons_succ]
              go_wp2_with fail
              first | exact ⟨rfl, rfl, rfl⟩ | rfl
            apply wpS_read (i := 11) rfl rfl ⟨_, hS⟩ rfl -- Op.nilCheck t74
            · intro w' hT'
              simp only [List.getElem_toArray, List.getElem_cons_zero, List.getElem_cons_succ]
              go_wp2_with fail
              first | exact ⟨rfl, rfl, rfl⟩ | rfl
            apply wpS_read (i := 12) rfl rfl ⟨_, hS⟩ rfl -- Op.fieldAddr 27 t75 1
            · intro w' hT'
              simp only [List.getElem_toArray, List.getElem_cons_zero, List.getElem_cons_succ]
              go_wp2_with fail
              first | exact ⟨rfl, rfl, rfl⟩ | rfl
            apply wpS_read (i := 13) rfl rfl ⟨_, hS⟩ rfl -- Op.load 3 t76
            · intro w' hT'
              simp only [List.getElem_toArray, List.getElem_cons_zero, List.getElem_cons_succ]
              have cx0 : w'.cell? ⟨gy, 0, none⟩ = some (.int .i64 (0)) := hT'.cell 0 rfl 0
              have cx1 : w'.cell? ⟨gy, 1, none⟩ = some (.int .i64 (0)) := hT'.cell 0 rfl 1
              have cp0 : w'.cell? ⟨gp, 0, none⟩ = some (.int .i64 (0)) := hT'.cell 1 rfl 0
              have cp1 : w'.cell? ⟨gp, 1, none⟩ = some (.int .i64 (0)) := hT'.cell 1 rfl 1
              go_wp2_with fail
              first | exact ⟨rfl, rfl, rfl⟩ | rfl
            apply wpS_read (i := 14) rfl rfl ⟨_, hS⟩ rfl -- Op.move t9
            · intro w' hT'
              simp only [List.getElem_toArray, List.getElem_cons_zero, List.getElem_cons_succ]
              go_wp2_with fail
              first | exact ⟨rfl, rfl, rfl⟩ | rfl
            apply wpS_read (i := 15) rfl rfl ⟨_, hS⟩ rfl -- Op.nilCheck t78
            · intro w' hT'
              simp only [List.getElem_toArray, List.getElem_cons_zero, List.getElem_cons_succ]
              go_wp2_with fail
              first | exact ⟨rfl, rfl, rfl⟩ | rfl
            apply wpS_read (i := 16) rfl rfl ⟨_, hS⟩ rfl -- Op.fieldAddr 29 t79 1
            · intro w' hT'
              simp only [List.getElem_toArray, List.getElem_cons_zero, List.getElem_cons_succ]
              go_wp2_with fail
              first | exact ⟨rfl, rfl, rfl⟩ | rfl
            apply wpS_read (i := 17) rfl rfl ⟨_, hS⟩ rfl -- Op.load 3 t80
            · intro w' hT'
              simp only [List.getElem_toArray, List.getElem_cons_zero, List.getElem_cons_succ]
              have cx0 : w'.cell? ⟨gy, 0, none⟩ = some (.int .i64 (0)) := hT'.cell 0 rfl 0
              have cx1 : w'.cell? ⟨gy, 1, none⟩ = some (.int .i64 (0)) := hT'.cell 0 rfl 1
              have cp0 : w'.cell? ⟨gp, 0, none⟩ = some (.int .i64 (0)) := hT'.cell 1 rfl 0
              have cp1 : w'.cell? ⟨gp, 1, none⟩ = some (.int .i64 (0)) := hT'.cell 1 rfl 1
              go_wp2_with fail
              first | exact ⟨rfl, rfl, rfl⟩ | rfl
            apply wpS_read (i := 18) rfl rfl ⟨_, hS⟩ rfl -- Op.binOp BinOp.neq 3 t77 t81 3
            · intro w' hT'
              simp only [List.getElem_toArray, List.getElem_cons_zero, List.getElem_cons_succ]
              go_wp2_with fail
              first | exact ⟨rfl, rfl, rfl⟩ | rfl
            apply wpS_read (i := 19) rfl rfl ⟨_, hS⟩ rfl -- Op.pick t73 (const (Value.bool true)) t82
            · intro w' hT'
              simp only [List.getElem_toArray, List.getElem_cons_zero, List.getElem_cons_succ]
              go_wp2_with fail
              first | exact ⟨rfl, rfl, rfl⟩ | rfl
            apply wpS_read (i := 20) rfl rfl ⟨_, hS⟩ rfl -- Op.move t83
            · intro w' hT'
              simp only [List.getElem_toArray, List.getElem_cons_zero, List.getElem_cons_succ]
              go_wp2_with fail
              first | exact ⟨rfl, rfl, rfl⟩ | rfl
            apply wpS_read (i := 21) rfl rfl ⟨_, hS⟩ rfl -- Op.move t8
            · intro w' hT'
              simp only [List.getElem_toArray, List.getElem_cons_zero, List.getElem_cons_succ]
              go_wp2_with fail
              first | exact ⟨rfl, rfl, rfl⟩ | rfl
            refine wpS_soft (i := 22) rfl rfl rfl (Nat.le_of_ble_eq_true rfl) ?_ ?_ -- Op.call { value (Operand.func 15), args := #[t85], argTypes := #[25]
            · intro w' hT
              simp only [List.getElem_toArray, List.getElem_cons_zero, List.getElem_cons_succ]
              go_wp2_with (first
                | (go_at_call 15; refine (pReadyH gp (0) (0) 1 hT rfl).mono ?_; rintro e wq ⟨rfl, rfl⟩)
                | fail)
              exact SoftP.mk' (.bool ((0) == 0)) ([]) rfl (⟨rfl, rfl⟩) (hT) (Below.refl _ _) (fun _ h => by cases h)
            intro u22 E22 hK22
            obtain ⟨rfl, rfl⟩ := hK22
            simp only [Act.put, List.setIfInBounds_toArray, List.set_cons_zero, List.set_cons_succ]
            apply wpS_read (i := 23) rfl rfl ⟨_, hS⟩ rfl -- Op.move t9
            · intro w' hT'
              simp only [List.getElem_toArray, List.getElem_cons_zero, List.getElem_cons_succ]
              go_wp2_with fail
              first | exact ⟨rfl, rfl, rfl⟩ | rfl
            apply wpS_read (i := 24) rfl rfl ⟨_, hS⟩ rfl -- Op.nilCheck t87
            · intro w' hT'
              simp only [List.getElem_toArray, List.getElem_cons_zero, List.getElem_cons_succ]
              go_wp2_with fail
              first | exact ⟨rfl, rfl, rfl⟩ | rfl
            apply wpS_read (i := 25) rfl rfl ⟨_, hS⟩ rfl -- Op.fieldAddr 29 t88 1
            · intro w' hT'
              simp only [List.getElem_toArray, List.getElem_cons_zero, List.getElem_cons_succ]
              go_wp2_with fail
              first | exact ⟨rfl, rfl, rfl⟩ | rfl
            apply wpS_read (i := 26) rfl rfl ⟨_, hS⟩ rfl -- Op.load 3 t89
            · intro w' hT'
              simp only [List.getElem_toArray, List.getElem_cons_zero, List.getElem_cons_succ]
              have cx0 : w'.cell? ⟨gy, 0, none⟩ = some (.int .i64 (0)) := hT'.cell 0 rfl 0
              have cx1 : w'.cell? ⟨gy, 1, none⟩ = some (.int .i64 (0)) := hT'.cell 0 rfl 1
              have cp0 : w'.cell? ⟨gp, 0, none⟩ = some (.int .i64 (0)) := hT'.cell 1 rfl 0
              have cp1 : w'.cell? ⟨gp, 1, none⟩ = some (.int .i64 (0)) := hT'.cell 1 rfl 1
              go_wp2_with fail
              first | exact ⟨rfl, rfl, rfl⟩ | rfl
            apply wpS_read (i := 27) rfl rfl ⟨_, hS⟩ rfl -- Op.binOp BinOp.eql 3 t90 (const (0:i64)) 3
            · intro w' hT'
              simp only [List.getElem_toArray, List.getElem_cons_zero, List.getElem_cons_succ]
              go_wp2_with fail
              first | exact ⟨rfl, rfl, rfl⟩ | rfl
            apply wpS_read (i := 28) rfl rfl ⟨_, hS⟩ rfl -- Op.binOp BinOp.neq 4 t86 t91 4
            · intro w' hT'
              simp only [List.getElem_toArray, List.getElem_cons_zero, List.getElem_cons_succ]
              go_wp2_with fail
              first | exact ⟨rfl, rfl, rfl⟩ | rfl
            apply wpS_read (i := 29) rfl rfl ⟨_, hS⟩ rfl -- Op.pick t84 (const (Value.bool true)) t92
            · intro w' hT'
              simp only [List.getElem_toArray, List.getElem_cons_zero, List.getElem_cons_succ]
              go_wp2_with fail
              first | exact ⟨rfl, rfl, rfl⟩ | rfl
            refine wpS_end ?_
            intro wv hT
            try dsimp only
            clear hS
            have hS : HS NoF w wv [.blk gy 29 (paceC 0 0), .blk gp 27 (paceC 0 0)] := hT
            clear hT
            go_wp2_with fail
            go_roundg (gk - 1)
            case measure => have := hq.out; omega
            case rel => exact ⟨i + 1, gy, 0, 0, by omega, by go_num, rfl, by omega, by omega, by omega, by omega, hid (by have := hq.out; omega), hS⟩
          · have hk2 : ¬ (k : Int) = 0 := by omega
            have hk3 : ¬ (k : Int) = 1 := by omega
            go_wp2_with fail
            refine (pTickH gp tr wt 1 hS rfl (by omega)).mono ?_
            rintro e w5 ⟨rfl, hSn⟩
            clear hS
            have hS : HS NoF w w5 [.blk gx 29 (paceC tr wt), .blk gp 27 (paceC tr (if 0 < wt then wt - 1 else wt))] := hSn
            clear hSn
            go_wp2_with fail
            refine (rTickH gx tr wt 0 hS rfl (by omega)).mono ?_
            rintro e w6 ⟨rfl, hSn⟩
            clear hS
            obtain ⟨wt1, hwt1⟩ : ∃ t : Int, (if 0 < wt then wt - 1 else wt) = t := ⟨_, rfl⟩
            have hwb1 : -3 ≤ wt1 ∧ wt1 ≤ 100 := by rw [← hwt1]; split <;> omega
            rw [hwt1] at hSn
            have hS : HS NoF w w6 [.blk gx 29 (paceC tr wt1), .blk gp 27 (paceC tr wt1)] := hSn
            clear hSn hwt1
            go_wp2_with fail
            try go_wp2_with fail
            refine wp_region_S (F := NoF) (w0 := w) (L0 := [.blk gx 29 (paceC tr wt1), .blk gp 27 (paceC tr wt1)]) [22] []
              (fun iK u E => match iK with
                | 22 => u = .bool ((wt1) == 0) ∧ E = []
                | _ => False)
              ([]) (by kernel_rfl) (by kernel_rfl) hS ?_
            show wpS _ _ _ _ _ _ _ _ _ _ [0, 1, 2, 3, 4, 5, 6, 7, 8, 9, 10, 11, 12, 13, 14, 15, 16, 17, 18, 19, 20, 21, 22, 23, 24, 25, 26, 27, 28, 29] _
            apply wpS_read (i := 0) rfl rfl ⟨_, hS⟩ rfl -- Op.move t8
            · intro w' hT'
              simp only [List.getElem_toArray, List.getElem_cons_zero, List.getElem_cons_succ]
              go_wp2_with fail
              first | exact ⟨rfl, rfl, rfl⟩ | rfl
            apply wpS_read (i := 1) rfl rfl ⟨_, hS⟩ rfl -- Op.nilCheck t64
            · intro w' hT'
              simp only [List.getElem_toArray, List.getElem_cons_zero, List.getElem_cons_succ]
              go_wp2_with fail
              first | exact ⟨rfl, rfl, rfl⟩ | rfl
            apply wpS_read (i := 2) rfl rfl ⟨_, hS⟩ rfl -- Op.fieldAddr 27 t65 0
            · intro w' hT'
              simp only [List.getElem_toArray, List.getElem_cons_zero, List.getElem_cons_succ]
              go_wp2_with fail
              first | exact ⟨rfl, rfl, rfl⟩ | rfl
            apply wpS_read (i := 3) rfl rfl ⟨_, hS⟩ rfl -- Op.load 3 t66
            · intro w' hT'
              simp only [List.getElem_toArray, List.getElem_cons_zero, List.getElem_cons_succ]
              have cx0 : w'.cell? ⟨gx, 0, none⟩ = some (.int .i64 (tr)) := hT'.cell 0 rfl 0
              have cx1 : w'.cell? ⟨gx, 1, none⟩ = some (.int .i64 (wt1)) := hT'.cell 0 rfl 1
              have cp0 : w'.cell? ⟨gp, 0, none⟩ = some (.int .i64 (tr)) := hT'.cell 1 rfl 0
              have cp1 : w'.cell? ⟨gp, 1, none⟩ = some (.int .i64 (wt1)) := hT'.cell 1 rfl 1
              go_wp2_with fail
              first | exact ⟨rfl, rfl, rfl⟩ | rfl
            apply wpS_read (i := 4) rfl rfl ⟨_, hS⟩ rfl -- Op.move t9
            · intro w' hT'
              simp only [List.getElem_toArray, List.getElem_cons_zero, List.getElem_cons_succ]
              go_wp2_with fail
              first | exact ⟨rfl, rfl, rfl⟩ | rfl
            apply wpS_read (i := 5) rfl rfl ⟨_, hS⟩ rfl -- Op.nilCheck t68
            · intro w' hT'
              simp only [List.getElem_toArray, List.getElem_cons_zero, List.getElem_cons_succ]
              go_wp2_with fail
              first | exact ⟨rfl, rfl, rfl⟩ | rfl
            apply wpS_read (i := 6) rfl rfl ⟨_, hS⟩ rfl -- Op.fieldAddr 29 t69 0
            · intro w' hT'
              simp only [List.getElem_toArray, List.getElem_cons_zero, List.getElem_cons_succ]
              go_wp2_with fail
              first | exact ⟨rfl, rfl, rfl⟩ | rfl
            apply wpS_read (i := 7) rfl rfl ⟨_, hS⟩ rfl -- Op.load 3 t70
            · intro w' hT'
              simp only [List.getElem_toArray, List.getElem_cons_zero, List.getElem_cons_succ]
              have cx0 : w'.cell? ⟨gx, 0, none⟩ = some (.int .i64 (tr)) := hT'.cell 0 rfl 0
              have cx1 : w'.cell? ⟨gx, 1, none⟩ = some (.int .i64 (wt1)) := hT'.cell 0 rfl 1
              have cp0 : w'.cell? ⟨gp, 0, none⟩ = some (.int .i64 (tr)) := hT'.cell 1 rfl 0
              have cp1 : w'.cell? ⟨gp, 1, none⟩ = some (.int .i64 (wt1)) := hT'.cell 1 rfl 1
              go_wp2_with fail
              first | exact ⟨rfl, rfl, rfl⟩ | rfl
            apply wpS_read (i := 8) rfl rfl ⟨_, hS⟩ rfl -- Op.binOp BinOp.neq 3 t67 t71 3
            · intro w' hT'
              simp only [List.getElem_toArray, List.getElem_cons_zero, List.getElem_cons_succ]
              go_wp2_with fail
              first | exact ⟨rfl, rfl, rfl⟩ | rfl
            apply wpS_read (i := 9) rfl rfl ⟨_, hS⟩ rfl -- Op.move t72
            · intro w' hT'
              simp only [List.getElem_toArray, List.getElem_cons_zero, List.getElem_cons_succ]
              go_wp2_with fail
              first | exact ⟨rfl, rfl, rfl⟩ | rfl
            apply wpS_read (i := 10) rfl rfl ⟨_, hS⟩ rfl -- Op.move t8
            · intro w' hT'
              simp only [List.getElem_toArray, List.getElem_cons_zero, List.getElem_cons_succ]
              go_wp2_with fail
              first | exact ⟨rfl, rfl, rfl⟩ | rfl
            apply wpS_read (i := 11) rfl rfl ⟨_, hS⟩ rfl -- Op.nilCheck t74
            · intro w' hT'
              simp only [List.getElem_toArray, List.getElem_cons_zero, List.getElem_cons_succ]
              go_wp2_with fail
              first | exact ⟨rfl, rfl, rfl⟩ | rfl
            apply wpS_read (i := 12) rfl rfl ⟨_, hS⟩ rfl -- Op.fieldAddr 27 t75 1
            · intro w' hT'
              simp only [List.getElem_toArray, List.getElem_cons_zero, List.getElem_cons_succ]
              go_wp2_with fail
              first | exact ⟨rfl, rfl, rfl⟩ | rfl
            apply wpS_read (i := 13) rfl rfl ⟨_, hS⟩ rfl -- Op.load 3 t76
            · intro w' hT'
              simp only [List.getElem_toArray, List.getElem_cons_zero, List.getElem_cons_succ]
              have cx0 : w'.cell? ⟨gx, 0, none⟩ = some (.int .i64 (tr)) := hT'.cell 0 rfl 0
              have cx1 : w'.cell? ⟨gx, 1, none⟩ = some (.int .i64 (wt1)) := hT'.cell 0 rfl 1
              have cp0 : w'.cell? ⟨gp, 0, none⟩ = some (.int .i64 (tr)) := hT'.cell 1 rfl 0
              have cp1 : w'.cell? ⟨gp, 1, none⟩ = some (.int .i64 (wt1)) := hT'.cell 1 rfl 1
              go_wp2_with fail
              first | exact ⟨rfl, rfl, rfl⟩ | rfl
            apply wpS_read (i := 14) rfl rfl ⟨_, hS⟩ rfl -- Op.move t9
            · intro w' hT'
              simp only [List.getElem_toArray, List.getElem_cons_zero, List.getElem_cons_succ]
              go_wp2_with fail
              first | exact ⟨rfl, rfl, rfl⟩ | rfl
            apply wpS_read (i := 15) rfl rfl ⟨_, hS⟩ rfl -- Op.nilCheck t78
            · intro w' hT'
              simp only [List.getElem_toArray, List.getElem_cons_zero, List.getElem_cons_succ]
              go_wp2_with fail
              first | exact ⟨rfl, rfl, rfl⟩ | rfl
            apply wpS_read (i := 16) rfl rfl ⟨_, hS⟩ rfl -- Op.fieldAddr 29 t79 1
            · intro w' hT'
              simp only [List.getElem_toArray, List.getElem_cons_zero, List.getElem_cons_succ]
              go_wp2_with fail
              first | exact ⟨rfl, rfl, rfl⟩ | rfl
            apply wpS_read (i := 17) rfl rfl ⟨_, hS⟩ rfl -- Op.load 3 t80
            · intro w' hT'
              simp only [List.getElem_toArray, List.getElem_cons_zero, List.getElem_cons_succ]
              have cx0 : w'.cell? ⟨gx, 0, none⟩ = some (.int .i64 (tr)) := hT'.cell 0 rfl 0
              have cx1 : w'.cell? ⟨gx, 1, none⟩ = some (.int .i64 (wt1)) := hT'.cell 0 rfl 1
              have cp0 : w'.cell? ⟨gp, 0, none⟩ = some (.int .i64 (tr)) := hT'.cell 1 rfl 0
              have cp1 : w'.cell? ⟨gp, 1, none⟩ = some (.int .i64 (wt1)) := hT'.cell 1 rfl 1
              go_wp2_with fail
              first | exact ⟨rfl, rfl, rfl⟩ | rfl
            apply wpS_read (i := 18) rfl rfl ⟨_, hS⟩ rfl -- Op.binOp BinOp.neq 3 t77 t81 3
            · intro w' hT'
              simp only [List.getElem_toArray, List.getElem_cons_zero, List.getElem_cons_succ]
              go_wp2_with fail
              first | exact ⟨rfl, rfl, rfl⟩ | rfl
            apply wpS_read (i := 19) rfl rfl ⟨_, hS⟩ rfl -- Op.pick t73 (const (Value.bool true)) t82
            · intro w' hT'
              simp only [List.getElem_toArray, List.getElem_cons_zero, List.getElem_cons_succ]
              go_wp2_with fail
              first | exact ⟨rfl, rfl, rfl⟩ | rfl
            apply wpS_read (i := 20) rfl rfl ⟨_, hS⟩ rfl -- Op.move t83
            · intro w' hT'
              simp only [List.getElem_toArray, List.getElem_cons_zero, List.getElem_cons_succ]
              go_wp2_with fail
              first | exact ⟨rfl, rfl, rfl⟩ | rfl
            apply wpS_read (i := 21) rfl rfl ⟨_, hS⟩ rfl -- Op.move t8
            · intro w' hT'
              simp only [List.getElem_toArray, List.getElem_cons_zero, List.getElem_cons_succ]
              go_wp2_with fail
              first | exact ⟨rfl, rfl, rfl⟩ | rfl
            refine wpS_soft (i := 22) rfl rfl rfl (Nat.le_of_ble_eq_true rfl) ?_ ?_ -- Op.call { value (Operand.func 15), args := #[t85], argTypes := #[25]
            · intro w' hT
              simp only [List.getElem_toArray, List.getElem_cons_zero, List.getElem_cons_succ]
              go_wp2_with (first
                | (go_at_call 15; refine (pReadyH gp (tr) (wt1) 1 hT rfl).mono ?_; rintro e wq ⟨rfl, rfl⟩)
                | fail)
              exact SoftP.mk' (.bool ((wt1) == 0)) ([]) rfl (⟨rfl, rfl⟩) (hT) (Below.refl _ _) (fun _ h => by cases h)
            intro u22 E22 hK22
            obtain ⟨rfl, rfl⟩ := hK22
            simp only [Act.put, List.setIfInBounds_toArray, List.set_cons_zero, List.set_cons_succ]
            apply wpS_read (i := 23) rfl rfl ⟨_, hS⟩ rfl -- Op.move t9
            · intro w' hT'
              simp only [List.getElem_toArray, List.getElem_cons_zero, List.getElem_cons_succ]
              go_wp2_with fail
              first | exact ⟨rfl, rfl, rfl⟩ | rfl
            apply wpS_read (i := 24) rfl rfl ⟨_, hS⟩ rfl -- Op.nilCheck t87
            · intro w' hT'
              simp only [List.getElem_toArray, List.getElem_cons_zero, List.getElem_cons_succ]
              go_wp2_with fail
              first | exact ⟨rfl, rfl, rfl⟩ | rfl
            apply wpS_read (i := 25) rfl rfl ⟨_, hS⟩ rfl -- Op.fieldAddr 29 t88 1
            · intro w' hT'
              simp only [List.getElem_toArray, List.getElem_cons_zero, List.getElem_cons_succ]
              go_wp2_with fail
              first | exact ⟨rfl, rfl, rfl⟩ | rfl
            apply wpS_read (i := 26) rfl rfl ⟨_, hS⟩ rfl -- Op.load 3 t89
            · intro w' hT'
              simp only [List.getElem_toArray, List.getElem_cons_zero, List.getElem_cons_succ]
              have cx0 : w'.cell? ⟨gx, 0, none⟩ = some (.int .i64 (tr)) := hT'.cell 0 rfl 0
              have cx1 : w'.cell? ⟨gx, 1, none⟩ = some (.int .i64 (wt1)) := hT'.cell 0 rfl 1
              have cp0 : w'.cell? ⟨gp, 0, none⟩ = some (.int .i64 (tr)) := hT'.cell 1 rfl 0
              have cp1 : w'.cell? ⟨gp, 1, none⟩ = some (.int .i64 (wt1)) := hT'.cell 1 rfl 1
              go_wp2_with fail
              first | exact ⟨rfl, rfl, rfl⟩ | rfl
            apply wpS_read (i := 27) rfl rfl ⟨_, hS⟩ rfl -- Op.binOp BinOp.eql 3 t90 (const (0:i64)) 3
            · intro w' hT'
              simp only [List.getElem_toArray, List.getElem_cons_zero, List.getElem_cons_succ]
              go_wp2_with fail
              first | exact ⟨rfl, rfl, rfl⟩ | rfl
            apply wpS_read (i := 28) rfl rfl ⟨_, hS⟩ rfl -- Op.binOp BinOp.neq 4 t86 t91 4
            · intro w' hT'
              simp only [List.getElem_toArray, List.getElem_cons_zero, List.getElem_cons_succ]
              go_wp2_with fail
              first | exact ⟨rfl, rfl, rfl⟩ | rfl
            apply wpS_read (i := 29) rfl rfl ⟨_, hS⟩ rfl -- Op.pick t84 (const (Value.bool true)) t92
            · intro w' hT'
              simp only [List.getElem_toArray, List.getElem_cons_zero, List.getElem_cons_succ]
              go_wp2_with fail
              first | exact ⟨rfl, rfl, rfl⟩ | rfl
            refine wpS_end ?_
            intro wv hT
            try dsimp only
            clear hS
            have hS : HS NoF w wv [.blk gx 29 (paceC tr wt1), .blk gp 27 (paceC tr wt1)] := hT
            clear hT
            go_wp2_with fail
            go_roundg (gk - 1)
            case measure => have := hq.out; omega
            case rel => exact ⟨i + 1, gx, tr, wt1, by omega, by go_num, rfl, by omega, by omega, by omega, by omega, hid (by have := hq.out; omega), hS⟩
      · have hlt2 : ¬ (i : Int) < n := by omega
        go_wp2_with fail
        go_ret
        exact ⟨rfl, hS.bel⟩
end Go.Proofs.Ytofpmigifimfoaa
/- The law PaceRuns. -/
namespace Go.Proofs.Ytofpmigifimfoaa
open Go.RowKit Go.Cour
theorem delayOf_next (i : Nat) (h1 : 3 ≤ i) (h2 : i ≤ 11) : delayOf i = min (2 * delayOf ((i : Int) - 1)) 64 := by
  have : i = 3 ∨ i = 4 ∨ i = 5 ∨ i = 6 ∨ i = 7 ∨ i = 8 ∨ i = 9 ∨ i = 10 ∨ i = 11 := by omega
  rcases this with rfl | rfl | rfl | rfl | rfl | rfl | rfl | rfl | rfl <;> decide
attribute [local go_sem] max2_int min2_int
set_option maxHeartbeats 10000000 in
set_option maxRecDepth 100000 in
theorem paceRuns_calls (ticks : Int) (w : World) :
    Calls Try.prog 4 #[.int .i64 ticks] w fun e w' => e = .returned (.bool true) ∧ Below w.heap.size w w' := by
  have hS := HS.start NoF w
  go_enter Try.func4, Try.ntmps4
  go_wp2_with (first
    | (go_at_call 8; refine (first23_calls _).mono ?_; rintro e w2 ⟨rfl, hB⟩; replace hS := hS.below hB; clear hB)
    | (go_at_call 9; (refine (numberN_calls _ 5 _ (by omega) (by omega)).mono ?_); rintro e wz ⟨tk, htk, rfl, rfl⟩)
    | (refine alloc_blk rfl 27 rfl _ rfl (paceC 0 0) zeroPaceC ?_; intro gp w3 hga hba hBa hsa; replace hS := hS.pushBlk hBa hba hga; clear hga hba hBa hsa)
    | fail)
  go_loopg [5, 6] 12 (fun kq v5 v6 wr => ∃ (i : Nat) (la : Int), 1 ≤ i ∧ i ≤ 12 ∧ v6 = .int .i64 i ∧ v5 = .int .i64 la ∧ 0 ≤ la ∧ la ≤ 64 ∧ Hd (i = 1 ∨ la = delayOf ((i : Int) - 1)) ∧ Hd (kq + i = 13) ∧ HS NoF w wr [.blk gp 27 (paceC ((i : Int) - 1) 0)])
  case atStart => exact ⟨1, 0, by omega, by omega, rfl, rfl, by omega, by omega, hid (.inl rfl), hid rfl, hS⟩
  case round =>
    clear hS
    obtain ⟨i, la, h1, h2, rfl, rfl, hla0, hla1, hla, hq, hS⟩ := hrel
    by_cases hlt : i ≤ 11
    · have hlt2 : (i : Int) ≤ 11 := by omega
      go_wp2_with fail
      refine (pReadyH gp ((i : Int) - 1) 0 0 hS rfl).mono ?_
      rintro e wq ⟨rfl, rfl⟩
      go_wp2_with fail
      refine (pFailH gp ((i : Int) - 1) 0 0 hS rfl (by omega)).mono ?_
      rintro e w5 ⟨rfl, hSn⟩
      clear hS
      rw [show (i : Int) - 1 + 1 = i by omega] at hSn ⊢
      obtain ⟨D, hD⟩ : ∃ t : Int, Hd (delayOf (i : Int) = t) := ⟨_, hid rfl⟩
      have hDb := delayOf_b (i : Int)
      rw [hD.out] at hSn hDb
      have hS : HS NoF w w5 [.blk gp 27 (paceC (i : Int) D)] := hSn
      clear hSn
      have cp0 : w5.cell? ⟨gp, 0, none⟩ = some (.int .i64 (i : Int)) := hS.cell 0 rfl 0
      have cp1 : w5.cell? ⟨gp, 1, none⟩ = some (.int .i64 D) := hS.cell 0 rfl 1
      have hD0 := hDb.1
      have hD1 := hDb.2
      by_cases h3 : 2 < i
      · have h3' : (2 : Int) < i := by omega
        have hm : Hd (D = min (2 * la) 64) := hid (by have h5 := hla.out; rw [← hD.out, delayOf_next i (by omega) hlt]; rcases h5 with h5 | h5; omega; rw [h5])
        have hm1 : (if 64 < 2 * la then (64 : Int) else 2 * la) = D := by have := hm.out; split <;> omega
        have hm2 : (if 2 * la < 64 then 2 * la else (64 : Int)) = D := by have := hm.out; split <;> omega
        go_wp2_with fail
        clear cp0 cp1
        obtain ⟨gA, hgA⟩ : ∃ g : Nat, Hd (gk = g) := ⟨_, hid rfl⟩
        rw [hgA.out] at hq
        obtain ⟨dn, hdn⟩ : ∃ dn : Nat, D = (dn : Int) := ⟨D.toNat, by omega⟩
        subst hdn
        go_loopg [7] (dn + 1) (fun kr v7 wr => ∃ k : Nat, k ≤ dn ∧ v7 = .int .i64 k ∧ Hd (kr + k = dn + 1) ∧ HS NoF w wr [.blk gp 27 (paceC (i : Int) ((dn : Int) - k))])
        case atStart => exact ⟨0, Nat.zero_le _, rfl, hid (by omega), by rw [show ((0 : Nat) : Int) = 0 from rfl, Int.sub_zero]; exact hS⟩
        case round =>
          clear hS
          obtain ⟨k, hk, rfl, hr, hS⟩ := hrel
          by_cases hkl : k < dn
          · have hkl2 : (k : Int) < dn := by omega
            go_wp2_with fail
            refine (pReadyH gp (i : Int) ((dn : Int) - k) 0 hS rfl).mono ?_
            rintro e wq ⟨rfl, rfl⟩
            have hrd : ((dn : Int) - k == 0) = false := by rw [beq_eq_false_iff_ne]; omega
            rw [hrd]
            go_wp2_with fail
            refine (pTickH gp (i : Int) ((dn : Int) - k) 0 hS rfl (by omega)).mono ?_
            rintro e w7 ⟨rfl, hSn⟩
            rw [if_pos (show (0 : Int) < (dn : Int) - k by omega)] at hSn
            clear hS
            have hS : HS NoF w w7 [.blk gp 27 (paceC (i : Int) ((dn : Int) - k - 1))] := hSn
            clear hSn hrd
            go_wp2_with fail
            go_roundg (gk - 1)
            case measure => have := hr.out; omega
            case rel => exact ⟨k + 1, by omega, by go_num, hid (by have := hr.out; omega), by rw [show (dn : Int) - ((k + 1 : Nat) : Int) = (dn : Int) - k - 1 by omega]; exact hS⟩
          · have hkd : k = dn := by omega
            subst hkd
            have hkl2 : ¬ (k : Int) < k := by omega
            rw [show (k : Int) - k = 0 by omega] at hS
            go_wp2_with fail
            go_loopg [8] (tk + 1) (fun kr v8 wr => ∃ j : Nat, j ≤ tk ∧ v8 = .int .i64 j ∧ Hd (kr + j = tk + 1) ∧ HS NoF w wr [.blk gp 27 (paceC (i : Int) 0)])
            case atStart => exact ⟨0, Nat.zero_le _, rfl, hid (by omega), hS⟩
            case round =>
              clear hS
              obtain ⟨j, hj, rfl, hr2, hS⟩ := hrel
              by_cases hjl : j < tk
              · have hjl2 : (j : Int) < tk := by omega
                go_wp2_with fail
                refine (pTickH gp (i : Int) 0 0 hS rfl (by omega)).mono ?_
                rintro e w7 ⟨rfl, hSn⟩
                rw [if_neg (show ¬ (0 : Int) < 0 by omega)] at hSn
                clear hS
                have hS : HS NoF w w7 [.blk gp 27 (paceC (i : Int) 0)] := hSn
                clear hSn
                go_wp2_with fail
                go_roundg (gk - 1)
                case measure => have := hr2.out; omega
                case rel => exact ⟨j + 1, by omega, by go_num, hid (by have := hr2.out; omega), hS⟩
              · have hjt : j = tk := by omega
                subst hjt
                have hjl2 : ¬ (j : Int) < j := by omega
                go_wp2_with fail
                go_roundg (gA - 1)
                case measure => have := hq.out; have := hgA.out; omega
                case rel => exact ⟨i + 1, k, by omega, by omega, by go_num, rfl, by omega, by omega, hid (.inr (by rw [show ((i + 1 : Nat) : Int) - 1 = i by omega]; exact hD.out.symm)), hid (by have := hq.out; omega), by rw [show ((i + 1 : Nat) : Int) - 1 = i by omega]; exact hS⟩
      · have h3' : ¬ (2 : Int) < i := by omega
        go_wp2_with fail
        clear cp0 cp1
        obtain ⟨gA, hgA⟩ : ∃ g : Nat, Hd (gk = g) := ⟨_, hid rfl⟩
        rw [hgA.out] at hq
        obtain ⟨dn, hdn⟩ : ∃ dn : Nat, D = (dn : Int) := ⟨D.toNat, by omega⟩
        subst hdn
        go_loopg [7] (dn + 1) (fun kr v7 wr => ∃ k : Nat, k ≤ dn ∧ v7 = .int .i64 k ∧ Hd (kr + k = dn + 1) ∧ HS NoF w wr [.blk gp 27 (paceC (i : Int) ((dn : Int) - k))])
        case atStart => exact ⟨0, Nat.zero_le _, rfl, hid (by omega), by rw [show ((0 : Nat) : Int) = 0 from rfl, Int.sub_zero]; exact hS⟩
        case round =>
          clear hS
          obtain ⟨k, hk, rfl, hr, hS⟩ := hrel
          by_cases hkl : k < dn
          · have hkl2 : (k : Int) < dn := by omega
            go_wp2_with fail
            refine (pReadyH gp (i : Int) ((dn : Int) - k) 0 hS rfl).mono ?_
            rintro e wq ⟨rfl, rfl⟩
            have hrd : ((dn : Int) - k == 0) = false := by rw [beq_eq_false_iff_ne]; omega
            rw [hrd]
            go_wp2_with fail
            refine (pTickH gp (i : Int) ((dn : Int) - k) 0 hS rfl (by omega)).mono ?_
            rintro e w7 ⟨rfl, hSn⟩
            rw [if_pos (show (0 : Int) < (dn : Int) - k by omega)] at hSn
            clear hS
            have hS : HS NoF w w7 [.blk gp 27 (paceC (i : Int) ((dn : Int) - k - 1))] := hSn
            clear hSn hrd
            go_wp2_with fail
            go_roundg (gk - 1)
            case measure => have := hr.out; omega
            case rel => exact ⟨k + 1, by omega, by go_num, hid (by have := hr.out; omega), by rw [show (dn : Int) - ((k + 1 : Nat) : Int) = (dn : Int) - k - 1 by omega]; exact hS⟩
          · have hkd : k = dn := by omega
            subst hkd
            have hkl2 : ¬ (k : Int) < k := by omega
            rw [show (k : Int) - k = 0 by omega] at hS
            go_wp2_with fail
            go_loopg [8] (tk + 1) (fun kr v8 wr => ∃ j : Nat, j ≤ tk ∧ v8 = .int .i64 j ∧ Hd (kr + j = tk + 1) ∧ HS NoF w wr [.blk gp 27 (paceC (i : Int) 0)])
            case atStart => exact ⟨0, Nat.zero_le _, rfl, hid (by omega), hS⟩
            case round =>
              clear hS
              obtain ⟨j, hj, rfl, hr2, hS⟩ := hrel
              by_cases hjl : j < tk
              · have hjl2 : (j : Int) < tk := by omega
                go_wp2_with fail
                refine (pTickH gp (i : Int) 0 0 hS rfl (by omega)).mono ?_
                rintro e w7 ⟨rfl, hSn⟩
                rw [if_neg (show ¬ (0 : Int) < 0 by omega)] at hSn
                clear hS
                have hS : HS NoF w w7 [.blk gp 27 (paceC (i : Int) 0)] := hSn
                clear hSn
                go_wp2_with fail
                go_roundg (gk - 1)
                case measure => have := hr2.out; omega
                case rel => exact ⟨j + 1, by omega, by go_num, hid (by have := hr2.out; omega), hS⟩
              · have hjt : j = tk := by omega
                subst hjt
                have hjl2 : ¬ (j : Int) < j := by omega
                go_wp2_with fail
                go_roundg (gA - 1)
                case measure => have := hq.out; have := hgA.out; omega
                case rel => exact ⟨i + 1, k, by omega, by omega, by go_num, rfl, by omega, by omega, hid (.inr (by rw [show ((i + 1 : Nat) : Int) - 1 = i by omega]; exact hD.out.symm)), hid (by have := hq.out; omega), by rw [show ((i + 1 : Nat) : Int) - 1 = i by omega]; exact hS⟩
    · have hi : i = 12 := by omega
      subst hi
      have hl64 : la = 64 := by rcases hla.out with h5 | h5; omega; rw [h5]; decide
      subst hl64
      go_wp2_with fail
      refine (pGoodH gp _ 0 0 hS rfl).mono ?_
      rintro e w8 ⟨rfl, hSn⟩
      clear hS
      have hS : HS NoF w w8 [.blk gp 27 (paceC 0 0)] := hSn
      clear hSn
      have cp0 : w8.cell? ⟨gp, 0, none⟩ = some (.int .i64 0) := hS.cell 0 rfl 0
      go_wp2_with fail
      refine (pReadyH gp 0 0 0 hS rfl).mono ?_
      rintro e wq ⟨rfl, rfl⟩
      go_wp2_with fail
      go_ret
      exact ⟨rfl, hS.bel⟩
end Go.Proofs.Ytofpmigifimfoaa
