/- The program's words of a block. -/
import Derived.Test.YtinpilfnnmkpoaaDoorShaB
import Derived.Test.YtinpilfnnmkpoaaDoorHO
import Derived.Test.YtinpilfnnmkpoaaDoorArr
namespace Go.Proofs.YtinpilfnnmkpoaaDoor
open Go.RowKit Go.Cour
theorem infoW64 : (Tryd.prog.info? 84).map (·.size) = some 64 := by kernel_rfl
theorem arrW64 : Tryd.prog.underlying 84 = some (.array 64 73) := by kernel_rfl
theorem zeroW64 : ((Tryd.prog.info? 84).bind (·.zero)).map (·.cells) = some (ints .u32 (List.replicate 64 0)).toArray := by kernel_rfl
/-- Bytes that stand in memory. -/
def At (w : World) (g o : Nat) (b : List Int) (n : Nat) : Prop := ∀ i, i < n → w.cell? ⟨g, o + i, none⟩ = some (.int .u8 (rd b i))
theorem At.below {w w' : World} {g o n : Nat} {b : List Int} (h : At w g o b n) (hb : Below w.heap.size w w') : At w' g o b n := fun i hi => (hb.cell (lt_of_cell (h i hi))).trans (h i hi)
/-- What the blocks of a call of words hold. -/
abbrev WS (w wr : World) (g2 g3 : Nat) (xs : List Int) : Prop := HS NoF w wr [.blk g3 84 (ints .u32 xs), .blk g2 84 (ints .u32 (List.replicate 64 0))]
set_option maxHeartbeats 1000000 in
set_option maxRecDepth 100000 in
theorem words_calls (b : List Int) (g o n c : Nat) (w : World) (hb : At w g o b 64) (hr : ∀ i, 0 ≤ rd b i ∧ rd b i < 256) (hn : 64 ≤ n) :
    Calls Tryd.prog 52 #[.slice (some ⟨g, o, none⟩) n c] w fun e w' => e = .returned (.agg (ints .u32 (sched b)).toArray) ∧ Below w.heap.size w w' := by
  have HB := hid hb
  have HR := hid hr
  clear hb hr
  have hS := HS.start NoF w
  go_enter Tryd.func52, Tryd.ntmps52
  go_wp2_with (first
    | (have _ := mk0; refine alloc_blk rfl 84 rfl _ rfl (ints .u32 (List.replicate 64 0)) zeroW64 ?_; intro g2 w3 hga hba hBa hsa; replace hS := hS.pushBlk hBa hba hga; clear hga hba hBa hsa; have mk1 : True := trivial)
    | (refine alloc_blk rfl 84 rfl _ rfl (ints .u32 (List.replicate 64 0)) zeroW64 ?_; intro gr w2 hga hba hBa hsa; replace hS := hS.pushBlk hBa hba hga; clear hga hba hBa hsa; have mk0 : True := trivial)
    | fail)
  replace hS : WS w w3 gr g2 (schedA b 0) := hS
  go_loopg [4, 8] 17 (fun kq v4 v8 wr => ∃ i : Nat, i ≤ 16 ∧ v8 = .int .i64 i ∧ Hd (kq + i = 17) ∧ WS w wr gr g2 (schedA b i))
  case atStart => exact ⟨0, by omega, rfl, hid (by omega), hS⟩
  case round =>
    clear hS
    obtain ⟨i, hi, rfl, hq, hS⟩ := hrel
    by_cases hlt : i < 16
    · have hlt2 : (i : Int) < 16 := by omega
      obtain ⟨p, hp⟩ : ∃ p : Nat, 4 * i = p := ⟨_, rfl⟩
      have hp2 : 4 * (i : Int) = (p : Int) := by omega
      have hpn : p + 3 < n := by omega
      have HW : Hd (word32 b i = bits .or .u32 (bits .or .u32 (bits .or .u32 (rd b p * 16777216) (rd b (p + 1) * 65536)) (rd b (p + 2) * 256)) (rd b (p + 3))) := hid (by rw [← hp]; rfl)
      have r0 := HR.out p
      have r1 := HR.out (p + 1)
      have r2 := HR.out (p + 2)
      have r3 := HR.out (p + 3)
      have c0 := hid (HB.out p (by omega))
      have c1 := hid (HB.out (p + 1) (by omega))
      have c2 := hid (HB.out (p + 2) (by omega))
      have c3 := hid (HB.out (p + 3) (by omega))
      have HL : Hd (i < (schedA b i).length) := hid (by simp; omega)
      have HX := hid (schedA_succ b i)
      generalize rd b p = b0 at *
      generalize rd b (p + 1) = b1 at *
      generalize rd b (p + 2) = b2 at *
      generalize rd b (p + 3) = b3 at *
      clear hp
      go_wp2_with fail
      try go_wp2_with fail
      refine wp_region_L (T := fun w' => WS w w' gr g2 (schedA b i)) (by kernel_rfl) (by kernel_rfl) hS.drew ?_
      intro wa hT
      show wpT _ _ _ _ [0, 1, 2, 3, 4, 5, 6, 7, 8, 9, 10, 11, 12, 13, 14, 15, 16, 17, 18, 19, 20, 21, 22, 23, 24, 25, 26, 27, 28, 29, 30, 31, 32, 33, 34, 35] _ _
      apply wpT_read (i := 0) rfl hT rfl -- Op.move t4
      · intro w' hT'
        simp only [List.getElem_toArray, List.getElem_cons_zero, List.getElem_cons_succ]
        go_wp2_with fail
        first | exact ⟨rfl, rfl, rfl⟩ | rfl
      apply wpT_read (i := 1) rfl hT rfl -- Op.move t0
      · intro w' hT'
        simp only [List.getElem_toArray, List.getElem_cons_zero, List.getElem_cons_succ]
        go_wp2_with fail
        first | exact ⟨rfl, rfl, rfl⟩ | rfl
      apply wpT_read (i := 2) rfl hT rfl -- Op.move t4
      · intro w' hT'
        simp only [List.getElem_toArray, List.getElem_cons_zero, List.getElem_cons_succ]
        go_wp2_with fail
        first | exact ⟨rfl, rfl, rfl⟩ | rfl
      apply wpT_read (i := 3) rfl hT rfl -- Op.binOp BinOp.mul 3 (const (4:i64)) t13 3
      · intro w' hT'
        simp only [List.getElem_toArray, List.getElem_cons_zero, List.getElem_cons_succ]
        go_wp2_with fail
        first | exact ⟨rfl, rfl, rfl⟩ | rfl
      apply wpT_read (i := 4) rfl hT rfl -- Op.indexAddr 41 t12 t14
      · intro w' hT'
        simp only [List.getElem_toArray, List.getElem_cons_zero, List.getElem_cons_succ]
        go_wp2_with fail
        first | exact ⟨rfl, rfl, rfl⟩ | rfl
      apply wpT_read (i := 5) rfl hT rfl -- Op.load 5 t15
      · intro w' hT'
        simp only [List.getElem_toArray, List.getElem_cons_zero, List.getElem_cons_succ]
        have k0 := hT'.oldCell c0.out id
        have k1 := hT'.oldCell c1.out id
        have k2 := hT'.oldCell c2.out id
        have k3 := hT'.oldCell c3.out id
        go_wp2_with fail
        first | exact ⟨rfl, rfl, rfl⟩ | rfl
      apply wpT_read (i := 6) rfl hT rfl -- Op.convert 5 73 t16
      · intro w' hT'
        simp only [List.getElem_toArray, List.getElem_cons_zero, List.getElem_cons_succ]
        go_wp2_with fail
        first | exact ⟨rfl, rfl, rfl⟩ | rfl
      apply wpT_read (i := 7) rfl hT rfl -- Op.binOp BinOp.shl 73 t17 (const (24:u64)) 63
      · intro w' hT'
        simp only [List.getElem_toArray, List.getElem_cons_zero, List.getElem_cons_succ]
        go_wp2_with fail
        first | exact ⟨rfl, rfl, rfl⟩ | rfl
      apply wpT_read (i := 8) rfl hT rfl -- Op.move t0
      · intro w' hT'
        simp only [List.getElem_toArray, List.getElem_cons_zero, List.getElem_cons_succ]
        go_wp2_with fail
        first | exact ⟨rfl, rfl, rfl⟩ | rfl
      apply wpT_read (i := 9) rfl hT rfl -- Op.move t4
      · intro w' hT'
        simp only [List.getElem_toArray, List.getElem_cons_zero, List.getElem_cons_succ]
        go_wp2_with fail
        first | exact ⟨rfl, rfl, rfl⟩ | rfl
      apply wpT_read (i := 10) rfl hT rfl -- Op.binOp BinOp.mul 3 (const (4:i64)) t20 3
      · intro w' hT'
        simp only [List.getElem_toArray, List.getElem_cons_zero, List.getElem_cons_succ]
        go_wp2_with fail
        first | exact ⟨rfl, rfl, rfl⟩ | rfl
      apply wpT_read (i := 11) rfl hT rfl -- Op.binOp BinOp.add 3 t21 (const (1:i64)) 3
      · intro w' hT'
        simp only [List.getElem_toArray, List.getElem_cons_zero, List.getElem_cons_succ]
        go_wp2_with fail
        first | exact ⟨rfl, rfl, rfl⟩ | rfl
      apply wpT_read (i := 12) rfl hT rfl -- Op.indexAddr 41 t19 t22
      · intro w' hT'
        simp only [List.getElem_toArray, List.getElem_cons_zero, List.getElem_cons_succ]
        go_wp2_with fail
        first | exact ⟨rfl, rfl, rfl⟩ | rfl
      apply wpT_read (i := 13) rfl hT rfl -- Op.load 5 t23
      · intro w' hT'
        simp only [List.getElem_toArray, List.getElem_cons_zero, List.getElem_cons_succ]
        have k0 := hT'.oldCell c0.out id
        have k1 := hT'.oldCell c1.out id
        have k2 := hT'.oldCell c2.out id
        have k3 := hT'.oldCell c3.out id
        go_wp2_with fail
        first | exact ⟨rfl, rfl, rfl⟩ | rfl
      apply wpT_read (i := 14) rfl hT rfl -- Op.convert 5 73 t24
      · intro w' hT'
        simp only [List.getElem_toArray, List.getElem_cons_zero, List.getElem_cons_succ]
        go_wp2_with fail
        first | exact ⟨rfl, rfl, rfl⟩ | rfl
      apply wpT_read (i := 15) rfl hT rfl -- Op.binOp BinOp.shl 73 t25 (const (16:u64)) 63
      · intro w' hT'
        simp only [List.getElem_toArray, List.getElem_cons_zero, List.getElem_cons_succ]
        go_wp2_with fail
        first | exact ⟨rfl, rfl, rfl⟩ | rfl
      apply wpT_read (i := 16) rfl hT rfl -- Op.binOp BinOp.or 73 t18 t26 73
      · intro w' hT'
        simp only [List.getElem_toArray, List.getElem_cons_zero, List.getElem_cons_succ]
        go_wp2_with fail
        first | exact ⟨rfl, rfl, rfl⟩ | rfl
      apply wpT_read (i := 17) rfl hT rfl -- Op.move t0
      · intro w' hT'
        simp only [List.getElem_toArray, List.getElem_cons_zero, List.getElem_cons_succ]
        go_wp2_with fail
        first | exact ⟨rfl, rfl, rfl⟩ | rfl
      apply wpT_read (i := 18) rfl hT rfl -- Op.move t4
      · intro w' hT'
        simp only [List.getElem_toArray, List.getElem_cons_zero, List.getElem_cons_succ]
        go_wp2_with fail
        first | exact ⟨rfl, rfl, rfl⟩ | rfl
      apply wpT_read (i := 19) rfl hT rfl -- Op.binOp BinOp.mul 3 (const (4:i64)) t29 3
      · intro w' hT'
        simp only [List.getElem_toArray, List.getElem_cons_zero, List.getElem_cons_succ]
        go_wp2_with fail
        first | exact ⟨rfl, rfl, rfl⟩ | rfl
      apply wpT_read (i := 20) rfl hT rfl -- Op.binOp BinOp.add 3 t30 (const (2:i64)) 3
      · intro w' hT'
        simp only [List.getElem_toArray, List.getElem_cons_zero, List.getElem_cons_succ]
        go_wp2_with fail
        first | exact ⟨rfl, rfl, rfl⟩ | rfl
      apply wpT_read (i := 21) rfl hT rfl -- Op.indexAddr 41 t28 t31
      · intro w' hT'
        simp only [List.getElem_toArray, List.getElem_cons_zero, List.getElem_cons_succ]
        go_wp2_with fail
        first | exact ⟨rfl, rfl, rfl⟩ | rfl
      apply wpT_read (i := 22) rfl hT rfl -- Op.load 5 t32
      · intro w' hT'
        simp only [List.getElem_toArray, List.getElem_cons_zero, List.getElem_cons_succ]
        have k0 := hT'.oldCell c0.out id
        have k1 := hT'.oldCell c1.out id
        have k2 := hT'.oldCell c2.out id
        have k3 := hT'.oldCell c3.out id
        go_wp2_with fail
        first | exact ⟨rfl, rfl, rfl⟩ | rfl
      apply wpT_read (i := 23) rfl hT rfl -- Op.convert 5 73 t33
      · intro w' hT'
        simp only [List.getElem_toArray, List.getElem_cons_zero, List.getElem_cons_succ]
        go_wp2_with fail
        first | exact ⟨rfl, rfl, rfl⟩ | rfl
      apply wpT_read (i := 24) rfl hT rfl -- Op.binOp BinOp.shl 73 t34 (const (8:u64)) 63
      · intro w' hT'
        simp only [List.getElem_toArray, List.getElem_cons_zero, List.getElem_cons_succ]
        go_wp2_with fail
        first | exact ⟨rfl, rfl, rfl⟩ | rfl
      apply wpT_read (i := 25) rfl hT rfl -- Op.binOp BinOp.or 73 t27 t35 73
      · intro w' hT'
        simp only [List.getElem_toArray, List.getElem_cons_zero, List.getElem_cons_succ]
        go_wp2_with fail
        first | exact ⟨rfl, rfl, rfl⟩ | rfl
      apply wpT_read (i := 26) rfl hT rfl -- Op.move t0
      · intro w' hT'
        simp only [List.getElem_toArray, List.getElem_cons_zero, List.getElem_cons_succ]
        go_wp2_with fail
        first | exact ⟨rfl, rfl, rfl⟩ | rfl
      apply wpT_read (i := 27) rfl hT rfl -- Op.move t4
      · intro w' hT'
        simp only [List.getElem_toArray, List.getElem_cons_zero, List.getElem_cons_succ]
        go_wp2_with fail
        first | exact ⟨rfl, rfl, rfl⟩ | rfl
      apply wpT_read (i := 28) rfl hT rfl -- Op.binOp BinOp.mul 3 (const (4:i64)) t38 3
      · intro w' hT'
        simp only [List.getElem_toArray, List.getElem_cons_zero, List.getElem_cons_succ]
        go_wp2_with fail
        first | exact ⟨rfl, rfl, rfl⟩ | rfl
      apply wpT_read (i := 29) rfl hT rfl -- Op.binOp BinOp.add 3 t39 (const (3:i64)) 3
      · intro w' hT'
        simp only [List.getElem_toArray, List.getElem_cons_zero, List.getElem_cons_succ]
        go_wp2_with fail
        first | exact ⟨rfl, rfl, rfl⟩ | rfl
      apply wpT_read (i := 30) rfl hT rfl -- Op.indexAddr 41 t37 t40
      · intro w' hT'
        simp only [List.getElem_toArray, List.getElem_cons_zero, List.getElem_cons_succ]
        go_wp2_with fail
        first | exact ⟨rfl, rfl, rfl⟩ | rfl
      apply wpT_read (i := 31) rfl hT rfl -- Op.load 5 t41
      · intro w' hT'
        simp only [List.getElem_toArray, List.getElem_cons_zero, List.getElem_cons_succ]
        have k0 := hT'.oldCell c0.out id
        have k1 := hT'.oldCell c1.out id
        have k2 := hT'.oldCell c2.out id
        have k3 := hT'.oldCell c3.out id
        go_wp2_with fail
        first | exact ⟨rfl, rfl, rfl⟩ | rfl
      apply wpT_read (i := 32) rfl hT rfl -- Op.convert 5 73 t42
      · intro w' hT'
        simp only [List.getElem_toArray, List.getElem_cons_zero, List.getElem_cons_succ]
        go_wp2_with fail
        first | exact ⟨rfl, rfl, rfl⟩ | rfl
      apply wpT_read (i := 33) rfl hT rfl -- Op.binOp BinOp.or 73 t36 t43 73
      · intro w' hT'
        simp only [List.getElem_toArray, List.getElem_cons_zero, List.getElem_cons_succ]
        go_wp2_with fail
        first | exact ⟨rfl, rfl, rfl⟩ | rfl
      apply wpT_read (i := 34) rfl hT rfl -- Op.indexAddr 84 t3 t11
      · intro w' hT'
        simp only [List.getElem_toArray, List.getElem_cons_zero, List.getElem_cons_succ]
        go_wp2_with fail
        first | exact ⟨rfl, rfl, rfl⟩ | rfl
      refine wpT_totL (i := 35) rfl rfl (by kernel_rfl) ?_ -- Op.store 73 t45 t44
      simp only [List.getElem_toArray, List.getElem_cons_zero, List.getElem_cons_succ]
      have fz := hT.frozen 0 rfl i
      have cc := hT.cellI 0 rfl i HL.out
      go_wp2_with fail
      refine OnX.mk (fun w' => WS w w' gr g2 (schedA b (i + 1))) rfl ?_ ?_
      · rw [HX.out, HW.out]; exact hT.setI 0 rfl i _
      clear hT
      clear fz cc
      intro w5_35 hT
      refine wpT_end ?_
      try dsimp only

      go_wp2_with fail
      go_roundg (gk - 1)
      case measure => have := hq.out; omega
      case rel => exact ⟨i + 1, by omega, by go_num, hid (by have := hq.out; omega), hT⟩
    · obtain rfl : i = 16 := by omega
      have hA : Hd (schedA b 16 = schedB b 0) := hid rfl
      rw [hA.out] at hS
      clear hA
      go_wp2_with fail
      go_loopg [5] 49 (fun kq v5 wr => ∃ q : Nat, 16 ≤ q ∧ q ≤ 64 ∧ v5 = .int .i64 q ∧ Hd (kq + q = 65) ∧ WS w wr gr g2 (schedB b (q - 16)))
      case atStart => exact ⟨16, by omega, by omega, rfl, hid (by omega), hS⟩
      case round =>
        clear hS hq
        obtain ⟨q, hq1, hq2, rfl, hq, hS⟩ := hrel
        by_cases hlt : q < 64
        · have hlt2 : (q : Int) < 64 := by omega
          obtain ⟨p15, hp15⟩ : ∃ p : Nat, q - 15 = p := ⟨_, rfl⟩
          obtain ⟨p2, hp2⟩ : ∃ p : Nat, q - 2 = p := ⟨_, rfl⟩
          obtain ⟨p16, hp16⟩ : ∃ p : Nat, q - 16 = p := ⟨_, rfl⟩
          obtain ⟨p7, hp7⟩ : ∃ p : Nat, q - 7 = p := ⟨_, rfl⟩
          have e15 : (q : Int) - 15 = (p15 : Int) := by omega
          have e2 : (q : Int) - 2 = (p2 : Int) := by omega
          have e16 : (q : Int) - 16 = (p16 : Int) := by omega
          have e7 : (q : Int) - 7 = (p7 : Int) := by omega
          have l15 : p15 < 64 := by omega
          have l2 : p2 < 64 := by omega
          have l16 : p16 < 64 := by omega
          have l7 : p7 < 64 := by omega
          have HX := hid (schedB_succ b p16)
          rw [hp16] at hS
          have hq16 : 16 + p16 = q := by omega
          have HN : Hd (q + 1 - 16 = p16 + 1) := hid (by omega)
          rw [hq16] at HX
          have R := schedB_W32 b p16
          have HL := schedB_length b p16
          generalize schedB b p16 = ws at *
          obtain ⟨x15, hx15⟩ : ∃ x, rd ws p15 = x := ⟨_, rfl⟩
          obtain ⟨x2, hx2⟩ : ∃ x, rd ws p2 = x := ⟨_, rfl⟩
          obtain ⟨x16, hx16⟩ : ∃ x, rd ws p16 = x := ⟨_, rfl⟩
          obtain ⟨x7, hx7⟩ : ∃ x, rd ws p7 = x := ⟨_, rfl⟩
          obtain ⟨r15, s15⟩ : W32 x15 := hx15 ▸ rd_all R zero_W32 _
          obtain ⟨r2, s2⟩ : W32 x2 := hx2 ▸ rd_all R zero_W32 _
          obtain ⟨r16, s16⟩ : W32 x16 := hx16 ▸ rd_all R zero_W32 _
          obtain ⟨r7, s7⟩ : W32 x7 := hx7 ▸ rd_all R zero_W32 _
          have HW : Hd (schedW ws q = (x16 + sig 7 18 8 x15 + x7 + sig 17 19 1024 x2) % 4294967296) := hid (by unfold schedW; rw [hp15, hp2, hp16, hp7, hx15, hx2, hx16, hx7])
          have C15 : Hd (∀ {w'}, WS w w' gr g2 ws → w'.cell? ⟨g2, p15, none⟩ = some (.int .u32 x15)) := hid fun h => by rw [h.cellI 0 rfl p15 (by omega), hx15]
          have C2 : Hd (∀ {w'}, WS w w' gr g2 ws → w'.cell? ⟨g2, p2, none⟩ = some (.int .u32 x2)) := hid fun h => by rw [h.cellI 0 rfl p2 (by omega), hx2]
          have C16 : Hd (∀ {w'}, WS w w' gr g2 ws → w'.cell? ⟨g2, p16, none⟩ = some (.int .u32 x16)) := hid fun h => by rw [h.cellI 0 rfl p16 (by omega), hx16]
          have C7 : Hd (∀ {w'}, WS w w' gr g2 ws → w'.cell? ⟨g2, p7, none⟩ = some (.int .u32 x7)) := hid fun h => by rw [h.cellI 0 rfl p7 (by omega), hx7]
          have HQ : Hd (q < ws.length) := hid (by omega)
          have HL := hid HL
          clear hp15 hp2 hp16 hp7 hx15 hx2 hx16 hx7 R hq16
          have HL2 := HL
          go_wp2_with fail
          try go_wp2_with fail
          refine wp_region_L (T := fun w' => WS w w' gr g2 ws) (by kernel_rfl) (by kernel_rfl) hS.drew ?_
          intro wa hT
          show wpT _ _ _ _ [0, 1, 2, 3, 4, 5, 6, 7, 8, 9] _ _
          apply wpT_read (i := 0) rfl hT rfl -- Op.move t5
          · intro w' hT'
            simp only [List.getElem_toArray, List.getElem_cons_zero, List.getElem_cons_succ]
            go_wp2_with fail
            first | exact ⟨rfl, rfl, rfl⟩ | rfl
          apply wpT_read (i := 1) rfl hT rfl -- Op.binOp BinOp.sub 3 t51 (const (15:i64)) 3
          · intro w' hT'
            simp only [List.getElem_toArray, List.getElem_cons_zero, List.getElem_cons_succ]
            go_wp2_with fail
            first | exact ⟨rfl, rfl, rfl⟩ | rfl
          apply wpT_read (i := 2) rfl hT rfl -- Op.indexAddr 84 t3 t52
          · intro w' hT'
            simp only [List.getElem_toArray, List.getElem_cons_zero, List.getElem_cons_succ]
            go_wp2_with fail
            first | exact ⟨rfl, rfl, rfl⟩ | rfl
          apply wpT_read (i := 3) rfl hT rfl -- Op.load 73 t53
          · intro w' hT'
            simp only [List.getElem_toArray, List.getElem_cons_zero, List.getElem_cons_succ]
            have k15 := C15.out hT'
            have k2 := C2.out hT'
            go_wp2_with fail
            first | exact ⟨rfl, rfl, rfl⟩ | rfl
          apply wpT_read (i := 4) rfl hT rfl -- Op.move t5
          · intro w' hT'
            simp only [List.getElem_toArray, List.getElem_cons_zero, List.getElem_cons_succ]
            go_wp2_with fail
            first | exact ⟨rfl, rfl, rfl⟩ | rfl
          apply wpT_read (i := 5) rfl hT rfl -- Op.binOp BinOp.sub 3 t55 (const (2:i64)) 3
          · intro w' hT'
            simp only [List.getElem_toArray, List.getElem_cons_zero, List.getElem_cons_succ]
            go_wp2_with fail
            first | exact ⟨rfl, rfl, rfl⟩ | rfl
          apply wpT_read (i := 6) rfl hT rfl -- Op.indexAddr 84 t3 t56
          · intro w' hT'
            simp only [List.getElem_toArray, List.getElem_cons_zero, List.getElem_cons_succ]
            go_wp2_with fail
            first | exact ⟨rfl, rfl, rfl⟩ | rfl
          apply wpT_read (i := 7) rfl hT rfl -- Op.load 73 t57
          · intro w' hT'
            simp only [List.getElem_toArray, List.getElem_cons_zero, List.getElem_cons_succ]
            have k15 := C15.out hT'
            have k2 := C2.out hT'
            go_wp2_with fail
            first | exact ⟨rfl, rfl, rfl⟩ | rfl
          apply wpT_read (i := 8) rfl hT rfl -- Op.assign t54
          · intro w' hT'
            simp only [List.getElem_toArray, List.getElem_cons_zero, List.getElem_cons_succ]
            go_wp2_with fail
            first | exact ⟨rfl, rfl, rfl⟩ | rfl
          apply wpT_read (i := 9) rfl hT rfl -- Op.assign t58
          · intro w' hT'
            simp only [List.getElem_toArray, List.getElem_cons_zero, List.getElem_cons_succ]
            go_wp2_with fail
            first | exact ⟨rfl, rfl, rfl⟩ | rfl
          refine wpT_end ?_
          try dsimp only

          replace hS := hT
          clear hT
          go_wp2_with fail
          try go_wp2_with fail
          refine wp_region_L (T := fun w' => WS w w' gr g2 ws) (by kernel_rfl) (by kernel_rfl) hS.drew ?_
          intro wa hT
          show wpT _ _ _ _ [0, 1, 2, 3, 4, 5, 6, 7, 8, 9, 10, 11, 12, 13, 14, 15, 16, 17, 18, 19, 20, 21, 22, 23, 24, 25, 26, 27, 28, 29] _ _
          apply wpT_read (i := 0) rfl hT rfl -- Op.move t5
          · intro w' hT'
            simp only [List.getElem_toArray, List.getElem_cons_zero, List.getElem_cons_succ]
            go_wp2_with fail
            first | exact ⟨rfl, rfl, rfl⟩ | rfl
          apply wpT_read (i := 1) rfl hT rfl -- Op.move t5
          · intro w' hT'
            simp only [List.getElem_toArray, List.getElem_cons_zero, List.getElem_cons_succ]
            go_wp2_with fail
            first | exact ⟨rfl, rfl, rfl⟩ | rfl
          apply wpT_read (i := 2) rfl hT rfl -- Op.binOp BinOp.sub 3 t60 (const (16:i64)) 3
          · intro w' hT'
            simp only [List.getElem_toArray, List.getElem_cons_zero, List.getElem_cons_succ]
            go_wp2_with fail
            first | exact ⟨rfl, rfl, rfl⟩ | rfl
          apply wpT_read (i := 3) rfl hT rfl -- Op.indexAddr 84 t3 t61
          · intro w' hT'
            simp only [List.getElem_toArray, List.getElem_cons_zero, List.getElem_cons_succ]
            go_wp2_with fail
            first | exact ⟨rfl, rfl, rfl⟩ | rfl
          apply wpT_read (i := 4) rfl hT rfl -- Op.load 73 t62
          · intro w' hT'
            simp only [List.getElem_toArray, List.getElem_cons_zero, List.getElem_cons_succ]
            have k16 := C16.out hT'
            have k7 := C7.out hT'
            go_wp2_with fail
            first | exact ⟨rfl, rfl, rfl⟩ | rfl
          apply wpT_read (i := 5) rfl hT rfl -- Op.move t6
          · intro w' hT'
            simp only [List.getElem_toArray, List.getElem_cons_zero, List.getElem_cons_succ]
            go_wp2_with fail
            first | exact ⟨rfl, rfl, rfl⟩ | rfl
          refine wpT_actL (i := 6) rfl rfl ?_ -- Op.call { value (Operand.func 54), args := #[t64, const (7:i64)], ar
          simp only [List.getElem_toArray, List.getElem_cons_zero, List.getElem_cons_succ]
          go_wp2_with (first
            | (go_at_call 54; refine (right7_calls x15 _ r15 s15).mono ?_; rintro e w1 ⟨rfl, rfl⟩)
            | fail)
          refine OnT.mk rfl ?_ ?_
          · exact hT
          clear hT
          intro w11_6 hT
          apply wpT_read (i := 7) rfl hT rfl -- Op.move t6
          · intro w' hT'
            simp only [List.getElem_toArray, List.getElem_cons_zero, List.getElem_cons_succ]
            go_wp2_with fail
            first | exact ⟨rfl, rfl, rfl⟩ | rfl
          refine wpT_actL (i := 8) rfl rfl ?_ -- Op.call { value (Operand.func 54), args := #[t66, const (18:i64)], a
          simp only [List.getElem_toArray, List.getElem_cons_zero, List.getElem_cons_succ]
          go_wp2_with (first
            | (go_at_call 54; refine (right18_calls x15 _ r15 s15).mono ?_; rintro e w1 ⟨rfl, rfl⟩)
            | fail)
          refine OnT.mk rfl ?_ ?_
          · exact hT
          clear hT
          intro w11_8 hT
          apply wpT_read (i := 9) rfl hT rfl -- Op.binOp BinOp.xor 73 t65 t67 73
          · intro w' hT'
            simp only [List.getElem_toArray, List.getElem_cons_zero, List.getElem_cons_succ]
            go_wp2_with fail
            first | exact ⟨rfl, rfl, rfl⟩ | rfl
          apply wpT_read (i := 10) rfl hT rfl -- Op.move t6
          · intro w' hT'
            simp only [List.getElem_toArray, List.getElem_cons_zero, List.getElem_cons_succ]
            go_wp2_with fail
            first | exact ⟨rfl, rfl, rfl⟩ | rfl
          apply wpT_read (i := 11) rfl hT rfl -- Op.binOp BinOp.shr 73 t69 (const (3:u64)) 63
          · intro w' hT'
            simp only [List.getElem_toArray, List.getElem_cons_zero, List.getElem_cons_succ]
            go_wp2_with fail
            first | exact ⟨rfl, rfl, rfl⟩ | rfl
          apply wpT_read (i := 12) rfl hT rfl -- Op.binOp BinOp.xor 73 t68 t70 73
          · intro w' hT'
            simp only [List.getElem_toArray, List.getElem_cons_zero, List.getElem_cons_succ]
            go_wp2_with fail
            first | exact ⟨rfl, rfl, rfl⟩ | rfl
          apply wpT_read (i := 13) rfl hT rfl -- Op.binOp BinOp.add 73 t63 t71 73
          · intro w' hT'
            simp only [List.getElem_toArray, List.getElem_cons_zero, List.getElem_cons_succ]
            go_wp2_with fail
            first | exact ⟨rfl, rfl, rfl⟩ | rfl
          apply wpT_read (i := 14) rfl hT rfl -- Op.move t5
          · intro w' hT'
            simp only [List.getElem_toArray, List.getElem_cons_zero, List.getElem_cons_succ]
            go_wp2_with fail
            first | exact ⟨rfl, rfl, rfl⟩ | rfl
          apply wpT_read (i := 15) rfl hT rfl -- Op.binOp BinOp.sub 3 t73 (const (7:i64)) 3
          · intro w' hT'
            simp only [List.getElem_toArray, List.getElem_cons_zero, List.getElem_cons_succ]
            go_wp2_with fail
            first | exact ⟨rfl, rfl, rfl⟩ | rfl
          apply wpT_read (i := 16) rfl hT rfl -- Op.indexAddr 84 t3 t74
          · intro w' hT'
            simp only [List.getElem_toArray, List.getElem_cons_zero, List.getElem_cons_succ]
            go_wp2_with fail
            first | exact ⟨rfl, rfl, rfl⟩ | rfl
          apply wpT_read (i := 17) rfl hT rfl -- Op.load 73 t75
          · intro w' hT'
            simp only [List.getElem_toArray, List.getElem_cons_zero, List.getElem_cons_succ]
            have k16 := C16.out hT'
            have k7 := C7.out hT'
            go_wp2_with fail
            first | exact ⟨rfl, rfl, rfl⟩ | rfl
          apply wpT_read (i := 18) rfl hT rfl -- Op.binOp BinOp.add 73 t72 t76 73
          · intro w' hT'
            simp only [List.getElem_toArray, List.getElem_cons_zero, List.getElem_cons_succ]
            go_wp2_with fail
            first | exact ⟨rfl, rfl, rfl⟩ | rfl
          apply wpT_read (i := 19) rfl hT rfl -- Op.move t7
          · intro w' hT'
            simp only [List.getElem_toArray, List.getElem_cons_zero, List.getElem_cons_succ]
            go_wp2_with fail
            first | exact ⟨rfl, rfl, rfl⟩ | rfl
          refine wpT_actL (i := 20) rfl rfl ?_ -- Op.call { value (Operand.func 54), args := #[t78, const (17:i64)], a
          simp only [List.getElem_toArray, List.getElem_cons_zero, List.getElem_cons_succ]
          go_wp2_with (first
            | (go_at_call 54; refine (right17_calls x2 _ r2 s2).mono ?_; rintro e w1 ⟨rfl, rfl⟩)
            | fail)
          refine OnT.mk rfl ?_ ?_
          · exact hT
          clear hT
          intro w11_20 hT
          apply wpT_read (i := 21) rfl hT rfl -- Op.move t7
          · intro w' hT'
            simp only [List.getElem_toArray, List.getElem_cons_zero, List.getElem_cons_succ]
            go_wp2_with fail
            first | exact ⟨rfl, rfl, rfl⟩ | rfl
          refine wpT_actL (i := 22) rfl rfl ?_ -- Op.call { value (Operand.func 54), args := #[t80, const (19:i64)], a
          simp only [List.getElem_toArray, List.getElem_cons_zero, List.getElem_cons_succ]
          go_wp2_with (first
            | (go_at_call 54; refine (right19_calls x2 _ r2 s2).mono ?_; rintro e w1 ⟨rfl, rfl⟩)
            | fail)
          refine OnT.mk rfl ?_ ?_
          · exact hT
          clear hT
          intro w11_22 hT
          apply wpT_read (i := 23) rfl hT rfl -- Op.binOp BinOp.xor 73 t79 t81 73
          · intro w' hT'
            simp only [List.getElem_toArray, List.getElem_cons_zero, List.getElem_cons_succ]
            go_wp2_with fail
            first | exact ⟨rfl, rfl, rfl⟩ | rfl
          apply wpT_read (i := 24) rfl hT rfl -- Op.move t7
          · intro w' hT'
            simp only [List.getElem_toArray, List.getElem_cons_zero, List.getElem_cons_succ]
            go_wp2_with fail
            first | exact ⟨rfl, rfl, rfl⟩ | rfl
          apply wpT_read (i := 25) rfl hT rfl -- Op.binOp BinOp.shr 73 t83 (const (10:u64)) 63
          · intro w' hT'
            simp only [List.getElem_toArray, List.getElem_cons_zero, List.getElem_cons_succ]
            go_wp2_with fail
            first | exact ⟨rfl, rfl, rfl⟩ | rfl
          apply wpT_read (i := 26) rfl hT rfl -- Op.binOp BinOp.xor 73 t82 t84 73
          · intro w' hT'
            simp only [List.getElem_toArray, List.getElem_cons_zero, List.getElem_cons_succ]
            go_wp2_with fail
            first | exact ⟨rfl, rfl, rfl⟩ | rfl
          apply wpT_read (i := 27) rfl hT rfl -- Op.binOp BinOp.add 73 t77 t85 73
          · intro w' hT'
            simp only [List.getElem_toArray, List.getElem_cons_zero, List.getElem_cons_succ]
            go_wp2_with fail
            first | exact ⟨rfl, rfl, rfl⟩ | rfl
          apply wpT_read (i := 28) rfl hT rfl -- Op.indexAddr 84 t3 t59
          · intro w' hT'
            simp only [List.getElem_toArray, List.getElem_cons_zero, List.getElem_cons_succ]
            go_wp2_with fail
            first | exact ⟨rfl, rfl, rfl⟩ | rfl
          refine wpT_totL (i := 29) rfl rfl (by kernel_rfl) ?_ -- Op.store 73 t87 t86
          simp only [List.getElem_toArray, List.getElem_cons_zero, List.getElem_cons_succ]
          have fz := hT.frozen 0 rfl q
          have cc := hT.cellI 0 rfl q HQ.out
          go_wp2_with fail
          refine OnX.mk (fun w' => WS w w' gr g2 (schedB b (p16 + 1))) rfl ?_ ?_
          · rw [HX.out, HW.out]; exact hT.setI 0 rfl q _
          clear hT
          clear fz cc
          intro w11_29 hT
          refine wpT_end ?_
          try dsimp only

          go_wp2_with fail
          go_roundg (gk - 1)
          case measure => have := hq.out; omega
          case rel => exact ⟨q + 1, by omega, by omega, by go_num, hid (by have := hq.out; omega), by rw [HN.out]; exact hT⟩
        · obtain rfl : q = 64 := by omega
          clear hlt hq1 hq2
          replace hS : WS w wr gr g2 (sched b) := hS
          have HL : Hd ((sched b).length = 64) := hid (schedB_length b 48)
          obtain ⟨ws, hws⟩ : ∃ ws, Hd (sched b = ws) := ⟨_, hid rfl⟩
          rw [hws.out] at hS HL
          go_wp2_with (first
            | (refine hs_loadN hS 0 rfl rfl 84 _ rfl 0 rfl (ints .u32 ws) (fun m v h => by rw [Nat.zero_add]; exact h) 64 infoW64 (by simp [HL.out]) _ arrW64 rfl _ rfl ?_)
            | (refine hs_storeN hS 1 rfl rfl 84 _ _ rfl 0 rfl (ints .u32 ws) rfl (fun v hv => by obtain ⟨y, _, rfl⟩ := List.mem_map.1 hv; rfl) 64 infoW64 (by simp [HL.out]) (by simp) _ rfl ?_; intro w9 hS)
            | fail)
          have hb := hS.blk 1 rfl
          simp only [List.take_zero, List.nil_append, Nat.zero_add] at hb
          rw [List.drop_eq_nil_of_le (by simp), List.append_nil] at hb
          refine bodyPost_ret (results_blk rfl _ _ gr _ _ 64 _ rfl hb arrW64 (by simp [HL.out]) infoW64) rfl ⟨by rw [hws.out], hS.bel⟩
end Go.Proofs.YtinpilfnnmkpoaaDoor
