import Derived.Test.YtlikinglgegclaaDoorProg
import Derived.Great.BuildSlice
import Derived.Great.FillDense
import Derived.StillTailTactics
import Derived.Deep.QuietTactic
import Derived.BigQuiet
import Derived.Laws.Closers25b
import Derived.Laws.BitsLemmas
import Derived.Test.YtlikinglgegclaaDoorMgDL0
import Derived.Test.YtlikinglgegclaaDoorMgDL1
import Derived.Test.YtlikinglgegclaaDoorMgDL2
set_option linter.unusedSimpArgs false
set_option linter.unusedVariables false
/- The reference's round. -/
namespace Go.Proofs.YtlikinglgegclaaDoor
open Go.RowKit Go.Cour
theorem bits_or_comm' (k : IntKind) (x y : Int) : bits .or k x y = bits .or k y x := by
  unfold bits
  simp only [BitVec.or_comm]
theorem rotr2_calls (x : Int) (w : World) (h : 0 ≤ x) (h' : x < 4294967296) :
    Calls Tryd.prog 69 #[.int .u32 x, .int .u64 2] w fun e w' => e = .returned (.int .u32 (rotr 2 x)) ∧ w' = w :=
  (rot2_calls x w h h').mono fun e w' ⟨h1, h2⟩ => ⟨by rw [h1, bits_or_comm']; rfl, h2⟩
theorem rotr6_calls (x : Int) (w : World) (h : 0 ≤ x) (h' : x < 4294967296) :
    Calls Tryd.prog 69 #[.int .u32 x, .int .u64 6] w fun e w' => e = .returned (.int .u32 (rotr 6 x)) ∧ w' = w :=
  (rot6_calls x w h h').mono fun e w' ⟨h1, h2⟩ => ⟨by rw [h1, bits_or_comm']; rfl, h2⟩
theorem rotr7_calls (x : Int) (w : World) (h : 0 ≤ x) (h' : x < 4294967296) :
    Calls Tryd.prog 69 #[.int .u32 x, .int .u64 7] w fun e w' => e = .returned (.int .u32 (rotr 7 x)) ∧ w' = w :=
  (rot7_calls x w h h').mono fun e w' ⟨h1, h2⟩ => ⟨by rw [h1, bits_or_comm']; rfl, h2⟩
theorem rotr11_calls (x : Int) (w : World) (h : 0 ≤ x) (h' : x < 4294967296) :
    Calls Tryd.prog 69 #[.int .u32 x, .int .u64 11] w fun e w' => e = .returned (.int .u32 (rotr 11 x)) ∧ w' = w :=
  (rot11_calls x w h h').mono fun e w' ⟨h1, h2⟩ => ⟨by rw [h1, bits_or_comm']; rfl, h2⟩
theorem rotr13_calls (x : Int) (w : World) (h : 0 ≤ x) (h' : x < 4294967296) :
    Calls Tryd.prog 69 #[.int .u32 x, .int .u64 13] w fun e w' => e = .returned (.int .u32 (rotr 13 x)) ∧ w' = w :=
  (rot13_calls x w h h').mono fun e w' ⟨h1, h2⟩ => ⟨by rw [h1, bits_or_comm']; rfl, h2⟩
theorem rotr17_calls (x : Int) (w : World) (h : 0 ≤ x) (h' : x < 4294967296) :
    Calls Tryd.prog 69 #[.int .u32 x, .int .u64 17] w fun e w' => e = .returned (.int .u32 (rotr 17 x)) ∧ w' = w :=
  (rot17_calls x w h h').mono fun e w' ⟨h1, h2⟩ => ⟨by rw [h1, bits_or_comm']; rfl, h2⟩
theorem rotr18_calls (x : Int) (w : World) (h : 0 ≤ x) (h' : x < 4294967296) :
    Calls Tryd.prog 69 #[.int .u32 x, .int .u64 18] w fun e w' => e = .returned (.int .u32 (rotr 18 x)) ∧ w' = w :=
  (rot18_calls x w h h').mono fun e w' ⟨h1, h2⟩ => ⟨by rw [h1, bits_or_comm']; rfl, h2⟩
theorem rotr19_calls (x : Int) (w : World) (h : 0 ≤ x) (h' : x < 4294967296) :
    Calls Tryd.prog 69 #[.int .u32 x, .int .u64 19] w fun e w' => e = .returned (.int .u32 (rotr 19 x)) ∧ w' = w :=
  (rot19_calls x w h h').mono fun e w' ⟨h1, h2⟩ => ⟨by rw [h1, bits_or_comm']; rfl, h2⟩
theorem rotr22_calls (x : Int) (w : World) (h : 0 ≤ x) (h' : x < 4294967296) :
    Calls Tryd.prog 69 #[.int .u32 x, .int .u64 22] w fun e w' => e = .returned (.int .u32 (rotr 22 x)) ∧ w' = w :=
  (rot22_calls x w h h').mono fun e w' ⟨h1, h2⟩ => ⟨by rw [h1, bits_or_comm']; rfl, h2⟩
theorem rotr25_calls (x : Int) (w : World) (h : 0 ≤ x) (h' : x < 4294967296) :
    Calls Tryd.prog 69 #[.int .u32 x, .int .u64 25] w fun e w' => e = .returned (.int .u32 (rotr 25 x)) ∧ w' = w :=
  (rot25_calls x w h h').mono fun e w' ⟨h1, h2⟩ => ⟨by rw [h1, bits_or_comm']; rfl, h2⟩
/-- What the blocks of the reference's round hold. -/
abbrev RS (w wr : World) (g2 g4 g5 g6 : Nat) (h ks xs : List Int) : Prop := HS NoF w wr [.blk g6 123 (ints .u32 xs), .blk g5 123 (ints .u32 ks), .blk g4 88 (ints .u32 (List.replicate 8 0)), .blk g2 88 (ints .u32 h)]
abbrev RV (w wr : World) (g2 g4 g5 g6 gv : Nat) (h ks xs v : List Int) : Prop := HS NoF w wr [.blk gv 88 (ints .u32 v), .blk g6 123 (ints .u32 xs), .blk g5 123 (ints .u32 ks), .blk g4 88 (ints .u32 (List.replicate 8 0)), .blk g2 88 (ints .u32 h)]
set_option maxHeartbeats 4000000 in
set_option maxRecDepth 100000 in
theorem round1_calls (h b : List Int) (g o n c : Nat) (w : World) (hl : h.length = 8) (hh : ∀ x ∈ h, W32 x) (hb : At w g o b 64) (hr : ∀ i, 0 ≤ rd b i ∧ rd b i < 256) (hn : 64 ≤ n) :
    Calls Tryd.prog 40 #[.agg (ints .u32 h).toArray, .slice (some ⟨g, o, none⟩) n c] w fun e w' => e = .returned (.agg (ints .u32 (shaBlock h b)).toArray) ∧ Below w.heap.size w w' := by
  have HB := hid hb
  have HR := hid hr
  have HL := hid hl
  obtain ⟨ks, hks⟩ : ∃ ks, Hd (shaK = ks) := ⟨_, hid rfl⟩
  have HLk : Hd (ks.length = 64) := hid (by rw [← hks.out]; rfl)
  have hKb : Hd (Tryd.prog.built 123 ((shaK.zipIdx 0).map fun x => (x.2, Value.int .u32 x.1)) = some (ints .u32 ks).toArray) := hid (by rw [← hks.out]; kernel_rfl)
  clear hb hr hl
  have hS := HS.start NoF w
  go_enter Tryd.func40, Tryd.ntmps40
  go_wp2_with (first
    | (refine box_blk rfl 88 _ rfl _ rfl (ints .u32 h) rfl ?_; intro g2 wz hga hba hBa hsa; replace hS := hS.pushBlk hBa hba hga; clear hga hba hBa hsa)
    | (refine alloc_blk rfl 88 rfl _ rfl (ints .u32 (List.replicate 8 0)) zeroW8 ?_; intro g4 w4 hga hba hBa hsa; replace hS := hS.pushBlk hBa hba hga; clear hga hba hBa hsa)
    | (have _ := mk0; refine alloc_blk rfl 123 rfl _ rfl (ints .u32 (List.replicate 64 0)) zeroW64 ?_; intro g6 w6 hga hba hBa hsa; replace hS := hS.pushBlk hBa hba hga; clear hga hba hBa hsa; have mk1 : True := trivial)
    | (refine alloc_blk rfl 123 rfl _ rfl (ints .u32 (List.replicate 64 0)) zeroW64 ?_; intro g5 w5 hga hba hBa hsa; replace hS := hS.pushBlk hBa hba hga; clear hga hba hBa hsa; have mk0 : True := trivial)
    | (refine wpList_buildFlatArr rfl 123 29 64 _ rfl .u32 shaK arrW64 sizeU32 (by kernel_rfl) (by rfl) ?_; rw [show (shaK.map (Value.int .u32)) = ints .u32 ks from by rw [hks.out]; rfl])
    | (refine hs_storeW hS 0 rfl rfl 123 _ _ rfl rfl (ints .u32 ks) rfl (ints_one' _ _) _ infoW64 (by simp [HLk.out]) (by simp) _ rfl ?_; clear hS; intro w9 hS)
    | fail)
  replace hS : RS w w6 g2 g4 g5 g6 h ks (schedA b 0) := hS
  clear hKb
  go_loopg [7] 17 (fun kq v7 wr => ∃ i : Nat, i ≤ 16 ∧ v7 = .int .i64 i ∧ Hd (kq + i = 17) ∧ RS w wr g2 g4 g5 g6 h ks (schedA b i))
  case atStart => exact ⟨0, by omega, rfl, hid (by omega), hS⟩
  case round =>
    clear hS
    obtain ⟨i, hi, rfl, hq, hS⟩ := hrel
    by_cases hlt : i < 16
    · have hlt2 : (i : Int) < 16 := by omega
      obtain ⟨p, hp⟩ : ∃ p : Nat, 4 * i = p := ⟨_, rfl⟩
      have hp2 : 4 * (i : Int) = (p : Int) := by omega
      have hpn : p + 3 < n := by omega
      have HW : Hd (word32 b i = bits .or .u32 (bits .or .u32 (bits .or .u32 (rd b p * 16777216) (rd b (p + 1) * 65536)) (rd b (p + 2) * 256)) (rd b (p + 3))) := hid (by rw [← hp]; rfl)
      have r0 := HR.out p
      have r1 := HR.out (p + 1)
      have r2 := HR.out (p + 2)
      have r3 := HR.out (p + 3)
      have c0 := hid (HB.out p (by omega))
      have c1 := hid (HB.out (p + 1) (by omega))
      have c2 := hid (HB.out (p + 2) (by omega))
      have c3 := hid (HB.out (p + 3) (by omega))
      have HLA : Hd (i < (schedA b i).length) := hid (by simp; omega)
      have HX := hid (schedA_succ b i)
      generalize rd b p = b0 at *
      generalize rd b (p + 1) = b1 at *
      generalize rd b (p + 2) = b2 at *
      generalize rd b (p + 3) = b3 at *
      clear hp
      try go_wp2_with fail
      refine wp_region_L (T := fun w' => RS w w' g2 g4 g5 g6 h ks (schedA b i)) (by kernel_rfl) (by kernel_rfl) hS.drew ?_
      intro wa hT
      show wpT _ _ _ _ [0, 1, 2, 3, 4, 5, 6, 7, 8, 9, 10, 11, 12, 13, 14, 15, 16, 17, 18, 19, 20, 21, 22, 23, 24, 25, 26, 27, 28, 29, 30, 31, 32, 33, 34, 35] _ _
      apply wpT_read (i := 0) rfl hT rfl -- Op.move t7
      · intro w' hT'
        simp only [List.getElem_toArray, List.getElem_cons_zero, List.getElem_cons_succ]
        go_wp2_with fail
        first | exact ⟨rfl, rfl, rfl⟩ | rfl
      apply wpT_read (i := 1) rfl hT rfl -- Op.move t1
      · intro w' hT'
        simp only [List.getElem_toArray, List.getElem_cons_zero, List.getElem_cons_succ]
        go_wp2_with fail
        first | exact ⟨rfl, rfl, rfl⟩ | rfl
      apply wpT_read (i := 2) rfl hT rfl -- Op.move t7
      · intro w' hT'
        simp only [List.getElem_toArray, List.getElem_cons_zero, List.getElem_cons_succ]
        go_wp2_with fail
        first | exact ⟨rfl, rfl, rfl⟩ | rfl
      apply wpT_read (i := 3) rfl hT rfl -- Op.binOp BinOp.mul 3 (const (4:i64)) t26 3
      · intro w' hT'
        simp only [List.getElem_toArray, List.getElem_cons_zero, List.getElem_cons_succ]
        go_wp2_with fail
        first | exact ⟨rfl, rfl, rfl⟩ | rfl
      apply wpT_read (i := 4) rfl hT rfl -- Op.indexAddr 41 t25 t27
      · intro w' hT'
        simp only [List.getElem_toArray, List.getElem_cons_zero, List.getElem_cons_succ]
        go_wp2_with fail
        first | exact ⟨rfl, rfl, rfl⟩ | rfl
      apply wpT_read (i := 5) rfl hT rfl -- Op.load 5 t28
      · intro w' hT'
        simp only [List.getElem_toArray, List.getElem_cons_zero, List.getElem_cons_succ]
        have k0 := hT'.oldCell c0.out id
        have k1 := hT'.oldCell c1.out id
        have k2 := hT'.oldCell c2.out id
        have k3 := hT'.oldCell c3.out id
        go_wp2_with fail
        first | exact ⟨rfl, rfl, rfl⟩ | rfl
      apply wpT_read (i := 6) rfl hT rfl -- Op.convert 5 73 t29
      · intro w' hT'
        simp only [List.getElem_toArray, List.getElem_cons_zero, List.getElem_cons_succ]
        go_wp2_with fail
        first | exact ⟨rfl, rfl, rfl⟩ | rfl
      apply wpT_read (i := 7) rfl hT rfl -- Op.binOp BinOp.shl 73 t30 (const (24:u64)) 63
      · intro w' hT'
        simp only [List.getElem_toArray, List.getElem_cons_zero, List.getElem_cons_succ]
        go_wp2_with fail
        first | exact ⟨rfl, rfl, rfl⟩ | rfl
      apply wpT_read (i := 8) rfl hT rfl -- Op.move t1
      · intro w' hT'
        simp only [List.getElem_toArray, List.getElem_cons_zero, List.getElem_cons_succ]
        go_wp2_with fail
        first | exact ⟨rfl, rfl, rfl⟩ | rfl
      apply wpT_read (i := 9) rfl hT rfl -- Op.move t7
      · intro w' hT'
        simp only [List.getElem_toArray, List.getElem_cons_zero, List.getElem_cons_succ]
        go_wp2_with fail
        first | exact ⟨rfl, rfl, rfl⟩ | rfl
      apply wpT_read (i := 10) rfl hT rfl -- Op.binOp BinOp.mul 3 (const (4:i64)) t33 3
      · intro w' hT'
        simp only [List.getElem_toArray, List.getElem_cons_zero, List.getElem_cons_succ]
        go_wp2_with fail
        first | exact ⟨rfl, rfl, rfl⟩ | rfl
      apply wpT_read (i := 11) rfl hT rfl -- Op.binOp BinOp.add 3 t34 (const (1:i64)) 3
      · intro w' hT'
        simp only [List.getElem_toArray, List.getElem_cons_zero, List.getElem_cons_succ]
        go_wp2_with fail
        first | exact ⟨rfl, rfl, rfl⟩ | rfl
      apply wpT_read (i := 12) rfl hT rfl -- Op.indexAddr 41 t32 t35
      · intro w' hT'
        simp only [List.getElem_toArray, List.getElem_cons_zero, List.getElem_cons_succ]
        go_wp2_with fail
        first | exact ⟨rfl, rfl, rfl⟩ | rfl
      apply wpT_read (i := 13) rfl hT rfl -- Op.load 5 t36
      · intro w' hT'
        simp only [List.getElem_toArray, List.getElem_cons_zero, List.getElem_cons_succ]
        have k0 := hT'.oldCell c0.out id
        have k1 := hT'.oldCell c1.out id
        have k2 := hT'.oldCell c2.out id
        have k3 := hT'.oldCell c3.out id
        go_wp2_with fail
        first | exact ⟨rfl, rfl, rfl⟩ | rfl
      apply wpT_read (i := 14) rfl hT rfl -- Op.convert 5 73 t37
      · intro w' hT'
        simp only [List.getElem_toArray, List.getElem_cons_zero, List.getElem_cons_succ]
        go_wp2_with fail
        first | exact ⟨rfl, rfl, rfl⟩ | rfl
      apply wpT_read (i := 15) rfl hT rfl -- Op.binOp BinOp.shl 73 t38 (const (16:u64)) 63
      · intro w' hT'
        simp only [List.getElem_toArray, List.getElem_cons_zero, List.getElem_cons_succ]
        go_wp2_with fail
        first | exact ⟨rfl, rfl, rfl⟩ | rfl
      apply wpT_read (i := 16) rfl hT rfl -- Op.binOp BinOp.or 73 t31 t39 73
      · intro w' hT'
        simp only [List.getElem_toArray, List.getElem_cons_zero, List.getElem_cons_succ]
        go_wp2_with fail
        first | exact ⟨rfl, rfl, rfl⟩ | rfl
      apply wpT_read (i := 17) rfl hT rfl -- Op.move t1
      · intro w' hT'
        simp only [List.getElem_toArray, List.getElem_cons_zero, List.getElem_cons_succ]
        go_wp2_with fail
        first | exact ⟨rfl, rfl, rfl⟩ | rfl
      apply wpT_read (i := 18) rfl hT rfl -- Op.move t7
      · intro w' hT'
        simp only [List.getElem_toArray, List.getElem_cons_zero, List.getElem_cons_succ]
        go_wp2_with fail
        first | exact ⟨rfl, rfl, rfl⟩ | rfl
      apply wpT_read (i := 19) rfl hT rfl -- Op.binOp BinOp.mul 3 (const (4:i64)) t42 3
      · intro w' hT'
        simp only [List.getElem_toArray, List.getElem_cons_zero, List.getElem_cons_succ]
        go_wp2_with fail
        first | exact ⟨rfl, rfl, rfl⟩ | rfl
      apply wpT_read (i := 20) rfl hT rfl -- Op.binOp BinOp.add 3 t43 (const (2:i64)) 3
      · intro w' hT'
        simp only [List.getElem_toArray, List.getElem_cons_zero, List.getElem_cons_succ]
        go_wp2_with fail
        first | exact ⟨rfl, rfl, rfl⟩ | rfl
      apply wpT_read (i := 21) rfl hT rfl -- Op.indexAddr 41 t41 t44
      · intro w' hT'
        simp only [List.getElem_toArray, List.getElem_cons_zero, List.getElem_cons_succ]
        go_wp2_with fail
        first | exact ⟨rfl, rfl, rfl⟩ | rfl
      apply wpT_read (i := 22) rfl hT rfl -- Op.load 5 t45
      · intro w' hT'
        simp only [List.getElem_toArray, List.getElem_cons_zero, List.getElem_cons_succ]
        have k0 := hT'.oldCell c0.out id
        have k1 := hT'.oldCell c1.out id
        have k2 := hT'.oldCell c2.out id
        have k3 := hT'.oldCell c3.out id
        go_wp2_with fail
        first | exact ⟨rfl, rfl, rfl⟩ | rfl
      apply wpT_read (i := 23) rfl hT rfl -- Op.convert 5 73 t46
      · intro w' hT'
        simp only [List.getElem_toArray, List.getElem_cons_zero, List.getElem_cons_succ]
        go_wp2_with fail
        first | exact ⟨rfl, rfl, rfl⟩ | rfl
      apply wpT_read (i := 24) rfl hT rfl -- Op.binOp BinOp.shl 73 t47 (const (8:u64)) 63
      · intro w' hT'
        simp only [List.getElem_toArray, List.getElem_cons_zero, List.getElem_cons_succ]
        go_wp2_with fail
        first | exact ⟨rfl, rfl, rfl⟩ | rfl
      apply wpT_read (i := 25) rfl hT rfl -- Op.binOp BinOp.or 73 t40 t48 73
      · intro w' hT'
        simp only [List.getElem_toArray, List.getElem_cons_zero, List.getElem_cons_succ]
        go_wp2_with fail
        first | exact ⟨rfl, rfl, rfl⟩ | rfl
      apply wpT_read (i := 26) rfl hT rfl -- Op.move t1
      · intro w' hT'
        simp only [List.getElem_toArray, List.getElem_cons_zero, List.getElem_cons_succ]
        go_wp2_with fail
        first | exact ⟨rfl, rfl, rfl⟩ | rfl
      apply wpT_read (i := 27) rfl hT rfl -- Op.move t7
      · intro w' hT'
        simp only [List.getElem_toArray, List.getElem_cons_zero, List.getElem_cons_succ]
        go_wp2_with fail
        first | exact ⟨rfl, rfl, rfl⟩ | rfl
      apply wpT_read (i := 28) rfl hT rfl -- Op.binOp BinOp.mul 3 (const (4:i64)) t51 3
      · intro w' hT'
        simp only [List.getElem_toArray, List.getElem_cons_zero, List.getElem_cons_succ]
        go_wp2_with fail
        first | exact ⟨rfl, rfl, rfl⟩ | rfl
      apply wpT_read (i := 29) rfl hT rfl -- Op.binOp BinOp.add 3 t52 (const (3:i64)) 3
      · intro w' hT'
        simp only [List.getElem_toArray, List.getElem_cons_zero, List.getElem_cons_succ]
        go_wp2_with fail
        first | exact ⟨rfl, rfl, rfl⟩ | rfl
      apply wpT_read (i := 30) rfl hT rfl -- Op.indexAddr 41 t50 t53
      · intro w' hT'
        simp only [List.getElem_toArray, List.getElem_cons_zero, List.getElem_cons_succ]
        go_wp2_with fail
        first | exact ⟨rfl, rfl, rfl⟩ | rfl
      apply wpT_read (i := 31) rfl hT rfl -- Op.load 5 t54
      · intro w' hT'
        simp only [List.getElem_toArray, List.getElem_cons_zero, List.getElem_cons_succ]
        have k0 := hT'.oldCell c0.out id
        have k1 := hT'.oldCell c1.out id
        have k2 := hT'.oldCell c2.out id
        have k3 := hT'.oldCell c3.out id
        go_wp2_with fail
        first | exact ⟨rfl, rfl, rfl⟩ | rfl
      apply wpT_read (i := 32) rfl hT rfl -- Op.convert 5 73 t55
      · intro w' hT'
        simp only [List.getElem_toArray, List.getElem_cons_zero, List.getElem_cons_succ]
        go_wp2_with fail
        first | exact ⟨rfl, rfl, rfl⟩ | rfl
      apply wpT_read (i := 33) rfl hT rfl -- Op.binOp BinOp.or 73 t49 t56 73
      · intro w' hT'
        simp only [List.getElem_toArray, List.getElem_cons_zero, List.getElem_cons_succ]
        go_wp2_with fail
        first | exact ⟨rfl, rfl, rfl⟩ | rfl
      apply wpT_read (i := 34) rfl hT rfl -- Op.indexAddr 84 t6 t24
      · intro w' hT'
        simp only [List.getElem_toArray, List.getElem_cons_zero, List.getElem_cons_succ]
        go_wp2_with fail
        first | exact ⟨rfl, rfl, rfl⟩ | rfl
      refine wpT_totL (i := 35) rfl rfl (by kernel_rfl) ?_ -- Op.store 73 t58 t57
      simp only [List.getElem_toArray, List.getElem_cons_zero, List.getElem_cons_succ]
      have fz := hT.frozen 0 rfl i
      have cc := hT.cellI 0 rfl i HLA.out
      go_wp2_with fail
      refine OnX.mk (fun w' => RS w w' g2 g4 g5 g6 h ks (schedA b (i + 1))) rfl ?_ ?_
      · rw [HX.out, HW.out]; exact hT.setI 0 rfl i _
      clear hT
      clear fz cc
      intro w6_35 hT
      refine wpT_end ?_
      try dsimp only

      go_wp2_with fail
      go_roundg (gk - 1)
      case measure => have := hq.out; omega
      case rel => exact ⟨i + 1, by omega, by go_num, hid (by have := hq.out; omega), hT⟩
    · obtain rfl : i = 16 := by omega
      have hA : Hd (schedA b 16 = schedB b 0) := hid rfl
      rw [hA.out] at hS
      clear hA
      go_wp2_with fail
      go_loopg [8, 9, 10] 49 (fun kq v8 v9 v10 wr => ∃ q : Nat, 16 ≤ q ∧ q ≤ 64 ∧ v8 = .int .i64 q ∧ Hd (kq + q = 65) ∧ RS w wr g2 g4 g5 g6 h ks (schedB b (q - 16)))
      case atStart => exact ⟨16, by omega, by omega, rfl, hid (by omega), hS⟩
      case round =>
        clear hS hq
        obtain ⟨q, hq1, hq2, rfl, hq, hS⟩ := hrel
        by_cases hlt : q < 64
        · have hlt2 : (q : Int) < 64 := by omega
          obtain ⟨p15, hp15⟩ : ∃ p : Nat, q - 15 = p := ⟨_, rfl⟩
          obtain ⟨p2, hp2⟩ : ∃ p : Nat, q - 2 = p := ⟨_, rfl⟩
          obtain ⟨p16, hp16⟩ : ∃ p : Nat, q - 16 = p := ⟨_, rfl⟩
          obtain ⟨p7, hp7⟩ : ∃ p : Nat, q - 7 = p := ⟨_, rfl⟩
          have e15 : (q : Int) - 15 = (p15 : Int) := by omega
          have e2 : (q : Int) - 2 = (p2 : Int) := by omega
          have e16 : (q : Int) - 16 = (p16 : Int) := by omega
          have e7 : (q : Int) - 7 = (p7 : Int) := by omega
          have l15 : p15 < 64 := by omega
          have l2 : p2 < 64 := by omega
          have l16 : p16 < 64 := by omega
          have l7 : p7 < 64 := by omega
          have HX := hid (schedB_succ b p16)
          rw [hp16] at hS
          have hq16 : 16 + p16 = q := by omega
          have HN : Hd (q + 1 - 16 = p16 + 1) := hid (by omega)
          rw [hq16] at HX
          have R := schedB_W32 b p16
          have HL2 := schedB_length b p16
          generalize schedB b p16 = ws at *
          obtain ⟨x15, hx15⟩ : ∃ x, rd ws p15 = x := ⟨_, rfl⟩
          obtain ⟨x2, hx2⟩ : ∃ x, rd ws p2 = x := ⟨_, rfl⟩
          obtain ⟨x16, hx16⟩ : ∃ x, rd ws p16 = x := ⟨_, rfl⟩
          obtain ⟨x7, hx7⟩ : ∃ x, rd ws p7 = x := ⟨_, rfl⟩
          obtain ⟨r15, s15⟩ : W32 x15 := hx15 ▸ rd_all R zero_W32 _
          obtain ⟨r2, s2⟩ : W32 x2 := hx2 ▸ rd_all R zero_W32 _
          obtain ⟨r16, s16⟩ : W32 x16 := hx16 ▸ rd_all R zero_W32 _
          obtain ⟨r7, s7⟩ : W32 x7 := hx7 ▸ rd_all R zero_W32 _
          have HW : Hd (schedW ws q = (x16 + sig 7 18 8 x15 + x7 + sig 17 19 1024 x2) % 4294967296) := hid (by unfold schedW; rw [hp15, hp2, hp16, hp7, hx15, hx2, hx16, hx7])
          have C15 : Hd (∀ {w'}, RS w w' g2 g4 g5 g6 h ks ws → w'.cell? ⟨g6, p15, none⟩ = some (.int .u32 x15)) := hid fun h => by rw [h.cellI 0 rfl p15 (by omega), hx15]
          have C2 : Hd (∀ {w'}, RS w w' g2 g4 g5 g6 h ks ws → w'.cell? ⟨g6, p2, none⟩ = some (.int .u32 x2)) := hid fun h => by rw [h.cellI 0 rfl p2 (by omega), hx2]
          have C16 : Hd (∀ {w'}, RS w w' g2 g4 g5 g6 h ks ws → w'.cell? ⟨g6, p16, none⟩ = some (.int .u32 x16)) := hid fun h => by rw [h.cellI 0 rfl p16 (by omega), hx16]
          have C7 : Hd (∀ {w'}, RS w w' g2 g4 g5 g6 h ks ws → w'.cell? ⟨g6, p7, none⟩ = some (.int .u32 x7)) := hid fun h => by rw [h.cellI 0 rfl p7 (by omega), hx7]
          have HQ : Hd (q < ws.length) := hid (by omega)
          clear hp15 hp2 hp16 hp7 hx15 hx2 hx16 hx7 R hq16 HL2
          try go_wp2_with fail
          refine wp_region_L (T := fun w' => RS w w' g2 g4 g5 g6 h ks ws) (by kernel_rfl) (by kernel_rfl) hS.drew ?_
          intro wa hT
          show wpT _ _ _ _ [0, 1, 2, 3, 4, 5, 6, 7, 8, 9, 10, 11, 12, 13, 14, 15, 16, 17] _ _
          apply wpT_read (i := 0) rfl hT rfl -- Op.move t8
          · intro w' hT'
            simp only [List.getElem_toArray, List.getElem_cons_zero, List.getElem_cons_succ]
            go_wp2_with fail
            first | exact ⟨rfl, rfl, rfl⟩ | rfl
          apply wpT_read (i := 1) rfl hT rfl -- Op.binOp BinOp.sub 3 t63 (const (15:i64)) 3
          · intro w' hT'
            simp only [List.getElem_toArray, List.getElem_cons_zero, List.getElem_cons_succ]
            go_wp2_with fail
            first | exact ⟨rfl, rfl, rfl⟩ | rfl
          apply wpT_read (i := 2) rfl hT rfl -- Op.indexAddr 84 t6 t64
          · intro w' hT'
            simp only [List.getElem_toArray, List.getElem_cons_zero, List.getElem_cons_succ]
            go_wp2_with fail
            first | exact ⟨rfl, rfl, rfl⟩ | rfl
          apply wpT_read (i := 3) rfl hT rfl -- Op.load 73 t65
          · intro w' hT'
            simp only [List.getElem_toArray, List.getElem_cons_zero, List.getElem_cons_succ]
            have k15 := C15.out hT'
            go_wp2_with fail
            first | exact ⟨rfl, rfl, rfl⟩ | rfl
          refine wpT_actL (i := 4) rfl rfl ?_ -- Op.call { value (Operand.func 45), args := #[t66, const (7:u64)], ar
          simp only [List.getElem_toArray, List.getElem_cons_zero, List.getElem_cons_succ]
          go_wp2_with (first
            | (go_at_call 69; refine (rotr7_calls x15 _ r15 s15).mono ?_; rintro e w1 ⟨rfl, rfl⟩)
            | fail)
          refine OnT.mk rfl ?_ ?_
          · exact hT
          clear hT
          intro w10_4 hT
          apply wpT_read (i := 5) rfl hT rfl -- Op.move t8
          · intro w' hT'
            simp only [List.getElem_toArray, List.getElem_cons_zero, List.getElem_cons_succ]
            go_wp2_with fail
            first | exact ⟨rfl, rfl, rfl⟩ | rfl
          apply wpT_read (i := 6) rfl hT rfl -- Op.binOp BinOp.sub 3 t68 (const (15:i64)) 3
          · intro w' hT'
            simp only [List.getElem_toArray, List.getElem_cons_zero, List.getElem_cons_succ]
            go_wp2_with fail
            first | exact ⟨rfl, rfl, rfl⟩ | rfl
          apply wpT_read (i := 7) rfl hT rfl -- Op.indexAddr 84 t6 t69
          · intro w' hT'
            simp only [List.getElem_toArray, List.getElem_cons_zero, List.getElem_cons_succ]
            go_wp2_with fail
            first | exact ⟨rfl, rfl, rfl⟩ | rfl
          apply wpT_read (i := 8) rfl hT rfl -- Op.load 73 t70
          · intro w' hT'
            simp only [List.getElem_toArray, List.getElem_cons_zero, List.getElem_cons_succ]
            have k15 := C15.out hT'
            go_wp2_with fail
            first | exact ⟨rfl, rfl, rfl⟩ | rfl
          refine wpT_actL (i := 9) rfl rfl ?_ -- Op.call { value (Operand.func 45), args := #[t71, const (18:u64)], a
          simp only [List.getElem_toArray, List.getElem_cons_zero, List.getElem_cons_succ]
          go_wp2_with (first
            | (go_at_call 69; refine (rotr18_calls x15 _ r15 s15).mono ?_; rintro e w1 ⟨rfl, rfl⟩)
            | fail)
          refine OnT.mk rfl ?_ ?_
          · exact hT
          clear hT
          intro w10_9 hT
          apply wpT_read (i := 10) rfl hT rfl -- Op.binOp BinOp.xor 73 t67 t72 73
          · intro w' hT'
            simp only [List.getElem_toArray, List.getElem_cons_zero, List.getElem_cons_succ]
            go_wp2_with fail
            first | exact ⟨rfl, rfl, rfl⟩ | rfl
          apply wpT_read (i := 11) rfl hT rfl -- Op.move t8
          · intro w' hT'
            simp only [List.getElem_toArray, List.getElem_cons_zero, List.getElem_cons_succ]
            go_wp2_with fail
            first | exact ⟨rfl, rfl, rfl⟩ | rfl
          apply wpT_read (i := 12) rfl hT rfl -- Op.binOp BinOp.sub 3 t74 (const (15:i64)) 3
          · intro w' hT'
            simp only [List.getElem_toArray, List.getElem_cons_zero, List.getElem_cons_succ]
            go_wp2_with fail
            first | exact ⟨rfl, rfl, rfl⟩ | rfl
          apply wpT_read (i := 13) rfl hT rfl -- Op.indexAddr 84 t6 t75
          · intro w' hT'
            simp only [List.getElem_toArray, List.getElem_cons_zero, List.getElem_cons_succ]
            go_wp2_with fail
            first | exact ⟨rfl, rfl, rfl⟩ | rfl
          apply wpT_read (i := 14) rfl hT rfl -- Op.load 73 t76
          · intro w' hT'
            simp only [List.getElem_toArray, List.getElem_cons_zero, List.getElem_cons_succ]
            have k15 := C15.out hT'
            go_wp2_with fail
            first | exact ⟨rfl, rfl, rfl⟩ | rfl
          apply wpT_read (i := 15) rfl hT rfl -- Op.binOp BinOp.shr 73 t77 (const (3:u64)) 63
          · intro w' hT'
            simp only [List.getElem_toArray, List.getElem_cons_zero, List.getElem_cons_succ]
            go_wp2_with fail
            first | exact ⟨rfl, rfl, rfl⟩ | rfl
          apply wpT_read (i := 16) rfl hT rfl -- Op.binOp BinOp.xor 73 t73 t78 73
          · intro w' hT'
            simp only [List.getElem_toArray, List.getElem_cons_zero, List.getElem_cons_succ]
            go_wp2_with fail
            first | exact ⟨rfl, rfl, rfl⟩ | rfl
          apply wpT_read (i := 17) rfl hT rfl -- Op.assign t79
          · intro w' hT'
            simp only [List.getElem_toArray, List.getElem_cons_zero, List.getElem_cons_succ]
            go_wp2_with fail
            first | exact ⟨rfl, rfl, rfl⟩ | rfl
          refine wpT_end ?_
          try dsimp only

          replace hS := hT
          clear hT
          try go_wp2_with fail
          refine wp_region_L (T := fun w' => RS w w' g2 g4 g5 g6 h ks ws) (by kernel_rfl) (by kernel_rfl) hS.drew ?_
          intro wa hT
          show wpT _ _ _ _ [0, 1, 2, 3, 4, 5, 6, 7, 8, 9, 10, 11, 12, 13, 14, 15, 16, 17] _ _
          apply wpT_read (i := 0) rfl hT rfl -- Op.move t8
          · intro w' hT'
            simp only [List.getElem_toArray, List.getElem_cons_zero, List.getElem_cons_succ]
            go_wp2_with fail
            first | exact ⟨rfl, rfl, rfl⟩ | rfl
          apply wpT_read (i := 1) rfl hT rfl -- Op.binOp BinOp.sub 3 t80 (const (2:i64)) 3
          · intro w' hT'
            simp only [List.getElem_toArray, List.getElem_cons_zero, List.getElem_cons_succ]
            go_wp2_with fail
            first | exact ⟨rfl, rfl, rfl⟩ | rfl
          apply wpT_read (i := 2) rfl hT rfl -- Op.indexAddr 84 t6 t81
          · intro w' hT'
            simp only [List.getElem_toArray, List.getElem_cons_zero, List.getElem_cons_succ]
            go_wp2_with fail
            first | exact ⟨rfl, rfl, rfl⟩ | rfl
          apply wpT_read (i := 3) rfl hT rfl -- Op.load 73 t82
          · intro w' hT'
            simp only [List.getElem_toArray, List.getElem_cons_zero, List.getElem_cons_succ]
            have k2 := C2.out hT'
            go_wp2_with fail
            first | exact ⟨rfl, rfl, rfl⟩ | rfl
          refine wpT_actL (i := 4) rfl rfl ?_ -- Op.call { value (Operand.func 45), args := #[t83, const (17:u64)], a
          simp only [List.getElem_toArray, List.getElem_cons_zero, List.getElem_cons_succ]
          go_wp2_with (first
            | (go_at_call 69; refine (rotr17_calls x2 _ r2 s2).mono ?_; rintro e w1 ⟨rfl, rfl⟩)
            | fail)
          refine OnT.mk rfl ?_ ?_
          · exact hT
          clear hT
          intro w11_4 hT
          apply wpT_read (i := 5) rfl hT rfl -- Op.move t8
          · intro w' hT'
            simp only [List.getElem_toArray, List.getElem_cons_zero, List.getElem_cons_succ]
            go_wp2_with fail
            first | exact ⟨rfl, rfl, rfl⟩ | rfl
          apply wpT_read (i := 6) rfl hT rfl -- Op.binOp BinOp.sub 3 t85 (const (2:i64)) 3
          · intro w' hT'
            simp only [List.getElem_toArray, List.getElem_cons_zero, List.getElem_cons_succ]
            go_wp2_with fail
            first | exact ⟨rfl, rfl, rfl⟩ | rfl
          apply wpT_read (i := 7) rfl hT rfl -- Op.indexAddr 84 t6 t86
          · intro w' hT'
            simp only [List.getElem_toArray, List.getElem_cons_zero, List.getElem_cons_succ]
            go_wp2_with fail
            first | exact ⟨rfl, rfl, rfl⟩ | rfl
          apply wpT_read (i := 8) rfl hT rfl -- Op.load 73 t87
          · intro w' hT'
            simp only [List.getElem_toArray, List.getElem_cons_zero, List.getElem_cons_succ]
            have k2 := C2.out hT'
            go_wp2_with fail
            first | exact ⟨rfl, rfl, rfl⟩ | rfl
          refine wpT_actL (i := 9) rfl rfl ?_ -- Op.call { value (Operand.func 45), args := #[t88, const (19:u64)], a
          simp only [List.getElem_toArray, List.getElem_cons_zero, List.getElem_cons_succ]
          go_wp2_with (first
            | (go_at_call 69; refine (rotr19_calls x2 _ r2 s2).mono ?_; rintro e w1 ⟨rfl, rfl⟩)
            | fail)
          refine OnT.mk rfl ?_ ?_
          · exact hT
          clear hT
          intro w11_9 hT
          apply wpT_read (i := 10) rfl hT rfl -- Op.binOp BinOp.xor 73 t84 t89 73
          · intro w' hT'
            simp only [List.getElem_toArray, List.getElem_cons_zero, List.getElem_cons_succ]
            go_wp2_with fail
            first | exact ⟨rfl, rfl, rfl⟩ | rfl
          apply wpT_read (i := 11) rfl hT rfl -- Op.move t8
          · intro w' hT'
            simp only [List.getElem_toArray, List.getElem_cons_zero, List.getElem_cons_succ]
            go_wp2_with fail
            first | exact ⟨rfl, rfl, rfl⟩ | rfl
          apply wpT_read (i := 12) rfl hT rfl -- Op.binOp BinOp.sub 3 t91 (const (2:i64)) 3
          · intro w' hT'
            simp only [List.getElem_toArray, List.getElem_cons_zero, List.getElem_cons_succ]
            go_wp2_with fail
            first | exact ⟨rfl, rfl, rfl⟩ | rfl
          apply wpT_read (i := 13) rfl hT rfl -- Op.indexAddr 84 t6 t92
          · intro w' hT'
            simp only [List.getElem_toArray, List.getElem_cons_zero, List.getElem_cons_succ]
            go_wp2_with fail
            first | exact ⟨rfl, rfl, rfl⟩ | rfl
          apply wpT_read (i := 14) rfl hT rfl -- Op.load 73 t93
          · intro w' hT'
            simp only [List.getElem_toArray, List.getElem_cons_zero, List.getElem_cons_succ]
            have k2 := C2.out hT'
            go_wp2_with fail
            first | exact ⟨rfl, rfl, rfl⟩ | rfl
          apply wpT_read (i := 15) rfl hT rfl -- Op.binOp BinOp.shr 73 t94 (const (10:u64)) 63
          · intro w' hT'
            simp only [List.getElem_toArray, List.getElem_cons_zero, List.getElem_cons_succ]
            go_wp2_with fail
            first | exact ⟨rfl, rfl, rfl⟩ | rfl
          apply wpT_read (i := 16) rfl hT rfl -- Op.binOp BinOp.xor 73 t90 t95 73
          · intro w' hT'
            simp only [List.getElem_toArray, List.getElem_cons_zero, List.getElem_cons_succ]
            go_wp2_with fail
            first | exact ⟨rfl, rfl, rfl⟩ | rfl
          apply wpT_read (i := 17) rfl hT rfl -- Op.assign t96
          · intro w' hT'
            simp only [List.getElem_toArray, List.getElem_cons_zero, List.getElem_cons_succ]
            go_wp2_with fail
            first | exact ⟨rfl, rfl, rfl⟩ | rfl
          refine wpT_end ?_
          try dsimp only

          replace hS := hT
          clear hT
          try go_wp2_with fail
          refine wp_region_L (T := fun w' => RS w w' g2 g4 g5 g6 h ks ws) (by kernel_rfl) (by kernel_rfl) hS.drew ?_
          intro wa hT
          show wpT _ _ _ _ [0, 1, 2, 3, 4, 5, 6, 7, 8, 9, 10, 11, 12, 13, 14, 15] _ _
          apply wpT_read (i := 0) rfl hT rfl -- Op.move t8
          · intro w' hT'
            simp only [List.getElem_toArray, List.getElem_cons_zero, List.getElem_cons_succ]
            go_wp2_with fail
            first | exact ⟨rfl, rfl, rfl⟩ | rfl
          apply wpT_read (i := 1) rfl hT rfl -- Op.move t8
          · intro w' hT'
            simp only [List.getElem_toArray, List.getElem_cons_zero, List.getElem_cons_succ]
            go_wp2_with fail
            first | exact ⟨rfl, rfl, rfl⟩ | rfl
          apply wpT_read (i := 2) rfl hT rfl -- Op.binOp BinOp.sub 3 t98 (const (16:i64)) 3
          · intro w' hT'
            simp only [List.getElem_toArray, List.getElem_cons_zero, List.getElem_cons_succ]
            go_wp2_with fail
            first | exact ⟨rfl, rfl, rfl⟩ | rfl
          apply wpT_read (i := 3) rfl hT rfl -- Op.indexAddr 84 t6 t99
          · intro w' hT'
            simp only [List.getElem_toArray, List.getElem_cons_zero, List.getElem_cons_succ]
            go_wp2_with fail
            first | exact ⟨rfl, rfl, rfl⟩ | rfl
          apply wpT_read (i := 4) rfl hT rfl -- Op.load 73 t100
          · intro w' hT'
            simp only [List.getElem_toArray, List.getElem_cons_zero, List.getElem_cons_succ]
            have k16 := C16.out hT'
            have k7 := C7.out hT'
            go_wp2_with fail
            first | exact ⟨rfl, rfl, rfl⟩ | rfl
          apply wpT_read (i := 5) rfl hT rfl -- Op.move t9
          · intro w' hT'
            simp only [List.getElem_toArray, List.getElem_cons_zero, List.getElem_cons_succ]
            go_wp2_with fail
            first | exact ⟨rfl, rfl, rfl⟩ | rfl
          apply wpT_read (i := 6) rfl hT rfl -- Op.binOp BinOp.add 73 t101 t102 73
          · intro w' hT'
            simp only [List.getElem_toArray, List.getElem_cons_zero, List.getElem_cons_succ]
            go_wp2_with fail
            first | exact ⟨rfl, rfl, rfl⟩ | rfl
          apply wpT_read (i := 7) rfl hT rfl -- Op.move t8
          · intro w' hT'
            simp only [List.getElem_toArray, List.getElem_cons_zero, List.getElem_cons_succ]
            go_wp2_with fail
            first | exact ⟨rfl, rfl, rfl⟩ | rfl
          apply wpT_read (i := 8) rfl hT rfl -- Op.binOp BinOp.sub 3 t104 (const (7:i64)) 3
          · intro w' hT'
            simp only [List.getElem_toArray, List.getElem_cons_zero, List.getElem_cons_succ]
            go_wp2_with fail
            first | exact ⟨rfl, rfl, rfl⟩ | rfl
          apply wpT_read (i := 9) rfl hT rfl -- Op.indexAddr 84 t6 t105
          · intro w' hT'
            simp only [List.getElem_toArray, List.getElem_cons_zero, List.getElem_cons_succ]
            go_wp2_with fail
            first | exact ⟨rfl, rfl, rfl⟩ | rfl
          apply wpT_read (i := 10) rfl hT rfl -- Op.load 73 t106
          · intro w' hT'
            simp only [List.getElem_toArray, List.getElem_cons_zero, List.getElem_cons_succ]
            have k16 := C16.out hT'
            have k7 := C7.out hT'
            go_wp2_with fail
            first | exact ⟨rfl, rfl, rfl⟩ | rfl
          apply wpT_read (i := 11) rfl hT rfl -- Op.binOp BinOp.add 73 t103 t107 73
          · intro w' hT'
            simp only [List.getElem_toArray, List.getElem_cons_zero, List.getElem_cons_succ]
            go_wp2_with fail
            first | exact ⟨rfl, rfl, rfl⟩ | rfl
          apply wpT_read (i := 12) rfl hT rfl -- Op.move t10
          · intro w' hT'
            simp only [List.getElem_toArray, List.getElem_cons_zero, List.getElem_cons_succ]
            go_wp2_with fail
            first | exact ⟨rfl, rfl, rfl⟩ | rfl
          apply wpT_read (i := 13) rfl hT rfl -- Op.binOp BinOp.add 73 t108 t109 73
          · intro w' hT'
            simp only [List.getElem_toArray, List.getElem_cons_zero, List.getElem_cons_succ]
            go_wp2_with fail
            first | exact ⟨rfl, rfl, rfl⟩ | rfl
          apply wpT_read (i := 14) rfl hT rfl -- Op.indexAddr 84 t6 t97
          · intro w' hT'
            simp only [List.getElem_toArray, List.getElem_cons_zero, List.getElem_cons_succ]
            go_wp2_with fail
            first | exact ⟨rfl, rfl, rfl⟩ | rfl
          refine wpT_totL (i := 15) rfl rfl (by kernel_rfl) ?_ -- Op.store 73 t111 t110
          simp only [List.getElem_toArray, List.getElem_cons_zero, List.getElem_cons_succ]
          have fz := hT.frozen 0 rfl q
          have cc := hT.cellI 0 rfl q HQ.out
          go_wp2_with fail
          refine OnX.mk (fun w' => RS w w' g2 g4 g5 g6 h ks (schedB b (p16 + 1))) rfl ?_ ?_
          · rw [HX.out, HW.out]; exact hT.setI 0 rfl q _
          clear hT
          clear fz cc
          intro w12_15 hT
          refine wpT_end ?_
          try dsimp only

          go_wp2_with fail
          go_roundg (gk - 1)
          case measure => have := hq.out; omega
          case rel => exact ⟨q + 1, by omega, by omega, by go_num, hid (by have := hq.out; omega), by rw [HN.out]; exact hT⟩
        · obtain rfl : q = 64 := by omega
          clear hlt hq1 hq2 hq
          replace hS : RS w wr g2 g4 g5 g6 h ks (sched b) := hS
          obtain ⟨ws, hws⟩ : ∃ ws, Hd (sched b = ws) := ⟨_, hid rfl⟩
          have HLs : Hd (ws.length = 64) := hid (by rw [← hws.out]; exact schedB_length b 48)
          rw [hws.out] at hS
          go_wp2_with (first
            | (refine hs_loadW hS 3 rfl rfl 88 _ rfl rfl 8 infoW8 (by simp [HL.out]) _ arrW8 rfl _ rfl ?_)
            | (refine alloc_blk rfl 88 rfl _ rfl (ints .u32 (List.replicate 8 0)) zeroW8 ?_; intro gv wv hga hba hBa hsa; replace hS := hS.pushBlk hBa hba hga; clear hga hba hBa hsa)
            | (refine hs_storeW hS 0 rfl rfl 88 _ _ rfl rfl (ints .u32 h) rfl (ints_one' _ _) _ infoW8 (by simp [HL.out]) (by simp) _ rfl ?_; clear hS; intro wb hS)
            | fail)
          replace hS : RV w wb g2 g4 g5 g6 gv h ks ws (roundsS b h 0) := hS
          go_loopg [12, 13, 14, 15, 16, 17] 65 (fun kq v12 v13 v14 v15 v16 v17 wr => ∃ i : Nat, i ≤ 64 ∧ v12 = .int .i64 i ∧ Hd (kq + i = 65) ∧ RV w wr g2 g4 g5 g6 gv h ks ws (roundsS b h i))
          case atStart => exact ⟨0, by omega, rfl, hid (by omega), hS⟩
          case round =>
            clear hS
            obtain ⟨i, hi, rfl, hq, hS⟩ := hrel
            by_cases hlt : i < 64
            · have hlt2 : (i : Int) < 64 := by omega
              have HX := hid (roundsS_succ b h i)
              rw [hws.out] at HX
              have R := roundsS_W32 b h hh i
              have HL8 := roundsS_length b h HL.out i
              generalize roundsS b h i = ss at *
              obtain ⟨x0, x1, x2, x3, x4, x5, x6, x7, rfl⟩ := eight HL8
              obtain ⟨⟨r0, s0⟩, ⟨r1, s1⟩, ⟨r2, s2⟩, ⟨r3, s3⟩, ⟨r4, s4⟩, ⟨r5, s5⟩, ⟨r6, s6⟩, ⟨r7, s7⟩⟩ : W32 x0 ∧ W32 x1 ∧ W32 x2 ∧ W32 x3 ∧ W32 x4 ∧ W32 x5 ∧ W32 x6 ∧ W32 x7 := by
                refine ⟨R _ ?_, R _ ?_, R _ ?_, R _ ?_, R _ ?_, R _ ?_, R _ ?_, R _ ?_⟩ <;> simp
              clear R HL8
              obtain ⟨ki, hki⟩ : ∃ k, Hd (rd ks i = k) := ⟨_, hid rfl⟩
              obtain ⟨wi, hwi⟩ : ∃ k, Hd (rd ws i = k) := ⟨_, hid rfl⟩
              obtain ⟨rk, sk⟩ : W32 ki := by rw [← hki.out, ← hks.out]; exact shaK_W32 i
              obtain ⟨rw_, sw_⟩ : W32 wi := by rw [← hwi.out, ← hws.out]; exact rd_all (schedB_W32 b 48) zero_W32 _
              have CK : Hd (∀ {w'}, RV w w' g2 g4 g5 g6 gv h ks ws [x0, x1, x2, x3, x4, x5, x6, x7] → w'.cell? ⟨g5, i, none⟩ = some (.int .u32 ki)) := hid fun h => by rw [h.cellI 2 rfl i (by rw [HLk.out]; exact hlt), hki.out]
              have CW : Hd (∀ {w'}, RV w w' g2 g4 g5 g6 gv h ks ws [x0, x1, x2, x3, x4, x5, x6, x7] → w'.cell? ⟨g6, i, none⟩ = some (.int .u32 wi)) := hid fun h => by rw [h.cellI 1 rfl i (by rw [HLs.out]; exact hlt), hwi.out]
              have HST : Hd (stepS ws [x0, x1, x2, x3, x4, x5, x6, x7] i = [((x7 + Sig 6 11 25 x4 + bits .xor .u32 (bits .and .u32 x4 x5) (bits .and .u32 (bits .xor .u32 IntKind.u32.max x4) x6) + ki + wi) + Sig 2 13 22 x0 + bits .xor .u32 (bits .xor .u32 (bits .and .u32 x0 x1) (bits .and .u32 x0 x2)) (bits .and .u32 x1 x2)) % 4294967296, x0, x1, x2, (x3 + (x7 + Sig 6 11 25 x4 + bits .xor .u32 (bits .and .u32 x4 x5) (bits .and .u32 (bits .xor .u32 IntKind.u32.max x4) x6) + ki + wi)) % 4294967296, x4, x5, x6]) := hid (by unfold stepS oneS twoS; rw [hks.out, hki.out, hwi.out, ← Int.add_assoc]; rfl)
              try go_wp2_with fail
              refine wp_region_L (T := fun w' => RV w w' g2 g4 g5 g6 gv h ks ws [x0, x1, x2, x3, x4, x5, x6, x7]) (by kernel_rfl) (by kernel_rfl) hS.drew ?_
              intro wa hT
              show wpT _ _ _ _ [0, 1, 2, 3, 4, 5, 6, 7, 8, 9, 10, 11] _ _
              apply wpT_read (i := 0) rfl hT rfl -- Op.indexAddr 74 t11 (const (4:i64))
              · intro w' hT'
                simp only [List.getElem_toArray, List.getElem_cons_zero, List.getElem_cons_succ]
                go_wp2_with fail
                first | exact ⟨rfl, rfl, rfl⟩ | rfl
              apply wpT_read (i := 1) rfl hT rfl -- Op.load 73 t117
              · intro w' hT'
                simp only [List.getElem_toArray, List.getElem_cons_zero, List.getElem_cons_succ]
                have cx4 : w'.cell? ⟨gv, 4, none⟩ = some (.int .u32 x4) := hT'.cell 0 rfl 4
                go_wp2_with fail
                first | exact ⟨rfl, rfl, rfl⟩ | rfl
              refine wpT_actL (i := 2) rfl rfl ?_ -- Op.call { value (Operand.func 45), args := #[t118, const (6:u64)], a
              simp only [List.getElem_toArray, List.getElem_cons_zero, List.getElem_cons_succ]
              go_wp2_with (first
                | (go_at_call 69; refine (rotr6_calls x4 _ r4 s4).mono ?_; rintro e w1 ⟨rfl, rfl⟩)
                | fail)
              refine OnT.mk rfl ?_ ?_
              · exact hT
              clear hT
              intro w17_2 hT
              apply wpT_read (i := 3) rfl hT rfl -- Op.indexAddr 74 t11 (const (4:i64))
              · intro w' hT'
                simp only [List.getElem_toArray, List.getElem_cons_zero, List.getElem_cons_succ]
                go_wp2_with fail
                first | exact ⟨rfl, rfl, rfl⟩ | rfl
              apply wpT_read (i := 4) rfl hT rfl -- Op.load 73 t120
              · intro w' hT'
                simp only [List.getElem_toArray, List.getElem_cons_zero, List.getElem_cons_succ]
                have cx4 : w'.cell? ⟨gv, 4, none⟩ = some (.int .u32 x4) := hT'.cell 0 rfl 4
                go_wp2_with fail
                first | exact ⟨rfl, rfl, rfl⟩ | rfl
              refine wpT_actL (i := 5) rfl rfl ?_ -- Op.call { value (Operand.func 45), args := #[t121, const (11:u64)], 
              simp only [List.getElem_toArray, List.getElem_cons_zero, List.getElem_cons_succ]
              go_wp2_with (first
                | (go_at_call 69; refine (rotr11_calls x4 _ r4 s4).mono ?_; rintro e w1 ⟨rfl, rfl⟩)
                | fail)
              refine OnT.mk rfl ?_ ?_
              · exact hT
              clear hT
              intro w17_5 hT
              apply wpT_read (i := 6) rfl hT rfl -- Op.binOp BinOp.xor 73 t119 t122 73
              · intro w' hT'
                simp only [List.getElem_toArray, List.getElem_cons_zero, List.getElem_cons_succ]
                go_wp2_with fail
                first | exact ⟨rfl, rfl, rfl⟩ | rfl
              apply wpT_read (i := 7) rfl hT rfl -- Op.indexAddr 74 t11 (const (4:i64))
              · intro w' hT'
                simp only [List.getElem_toArray, List.getElem_cons_zero, List.getElem_cons_succ]
                go_wp2_with fail
                first | exact ⟨rfl, rfl, rfl⟩ | rfl
              apply wpT_read (i := 8) rfl hT rfl -- Op.load 73 t124
              · intro w' hT'
                simp only [List.getElem_toArray, List.getElem_cons_zero, List.getElem_cons_succ]
                have cx4 : w'.cell? ⟨gv, 4, none⟩ = some (.int .u32 x4) := hT'.cell 0 rfl 4
                go_wp2_with fail
                first | exact ⟨rfl, rfl, rfl⟩ | rfl
              refine wpT_actL (i := 9) rfl rfl ?_ -- Op.call { value (Operand.func 45), args := #[t125, const (25:u64)], 
              simp only [List.getElem_toArray, List.getElem_cons_zero, List.getElem_cons_succ]
              go_wp2_with (first
                | (go_at_call 69; refine (rotr25_calls x4 _ r4 s4).mono ?_; rintro e w1 ⟨rfl, rfl⟩)
                | fail)
              refine OnT.mk rfl ?_ ?_
              · exact hT
              clear hT
              intro wn hT
              apply wpT_read (i := 10) rfl hT rfl -- Op.binOp BinOp.xor 73 t123 t126 73
              · intro w' hT'
                simp only [List.getElem_toArray, List.getElem_cons_zero, List.getElem_cons_succ]
                go_wp2_with fail
                first | exact ⟨rfl, rfl, rfl⟩ | rfl
              apply wpT_read (i := 11) rfl hT rfl -- Op.assign t127
              · intro w' hT'
                simp only [List.getElem_toArray, List.getElem_cons_zero, List.getElem_cons_succ]
                go_wp2_with fail
                first | exact ⟨rfl, rfl, rfl⟩ | rfl
              refine wpT_end ?_
              try dsimp only

              replace hS := hT
              clear hT
              have cx4 : wn.cell? ⟨gv, 4, none⟩ = some (.int .u32 x4) := hS.cell 0 rfl 4
              have cx5 : wn.cell? ⟨gv, 5, none⟩ = some (.int .u32 x5) := hS.cell 0 rfl 5
              have cx6 : wn.cell? ⟨gv, 6, none⟩ = some (.int .u32 x6) := hS.cell 0 rfl 6
              have hsg : IntKind.u32.signed = false := rfl
              go_wp2_with fail
              clear hsg
              clear cx4 cx5 cx6
              try go_wp2_with fail
              refine wp_region_L (T := fun w' => RV w w' g2 g4 g5 g6 gv h ks ws [x0, x1, x2, x3, x4, x5, x6, x7]) (by kernel_rfl) (by kernel_rfl) hS.drew ?_
              intro wa hT
              show wpT _ _ _ _ [0, 1, 2, 3, 4, 5, 6, 7, 8, 9, 10, 11, 12, 13, 14] _ _
              apply wpT_read (i := 0) rfl hT rfl -- Op.indexAddr 74 t11 (const (7:i64))
              · intro w' hT'
                simp only [List.getElem_toArray, List.getElem_cons_zero, List.getElem_cons_succ]
                go_wp2_with fail
                first | exact ⟨rfl, rfl, rfl⟩ | rfl
              apply wpT_read (i := 1) rfl hT rfl -- Op.load 73 t140
              · intro w' hT'
                simp only [List.getElem_toArray, List.getElem_cons_zero, List.getElem_cons_succ]
                have cx7 : w'.cell? ⟨gv, 7, none⟩ = some (.int .u32 x7) := hT'.cell 0 rfl 7
                have ck := CK.out hT'
                have cw := CW.out hT'
                go_wp2_with fail
                first | exact ⟨rfl, rfl, rfl⟩ | rfl
              apply wpT_read (i := 2) rfl hT rfl -- Op.move t13
              · intro w' hT'
                simp only [List.getElem_toArray, List.getElem_cons_zero, List.getElem_cons_succ]
                go_wp2_with fail
                first | exact ⟨rfl, rfl, rfl⟩ | rfl
              apply wpT_read (i := 3) rfl hT rfl -- Op.binOp BinOp.add 73 t141 t142 73
              · intro w' hT'
                simp only [List.getElem_toArray, List.getElem_cons_zero, List.getElem_cons_succ]
                go_wp2_with fail
                first | exact ⟨rfl, rfl, rfl⟩ | rfl
              apply wpT_read (i := 4) rfl hT rfl -- Op.move t14
              · intro w' hT'
                simp only [List.getElem_toArray, List.getElem_cons_zero, List.getElem_cons_succ]
                go_wp2_with fail
                first | exact ⟨rfl, rfl, rfl⟩ | rfl
              apply wpT_read (i := 5) rfl hT rfl -- Op.binOp BinOp.add 73 t143 t144 73
              · intro w' hT'
                simp only [List.getElem_toArray, List.getElem_cons_zero, List.getElem_cons_succ]
                go_wp2_with fail
                first | exact ⟨rfl, rfl, rfl⟩ | rfl
              apply wpT_read (i := 6) rfl hT rfl -- Op.move t12
              · intro w' hT'
                simp only [List.getElem_toArray, List.getElem_cons_zero, List.getElem_cons_succ]
                go_wp2_with fail
                first | exact ⟨rfl, rfl, rfl⟩ | rfl
              apply wpT_read (i := 7) rfl hT rfl -- Op.indexAddr 84 t5 t146
              · intro w' hT'
                simp only [List.getElem_toArray, List.getElem_cons_zero, List.getElem_cons_succ]
                go_wp2_with fail
                first | exact ⟨rfl, rfl, rfl⟩ | rfl
              apply wpT_read (i := 8) rfl hT rfl -- Op.load 73 t147
              · intro w' hT'
                simp only [List.getElem_toArray, List.getElem_cons_zero, List.getElem_cons_succ]
                have cx7 : w'.cell? ⟨gv, 7, none⟩ = some (.int .u32 x7) := hT'.cell 0 rfl 7
                have ck := CK.out hT'
                have cw := CW.out hT'
                go_wp2_with fail
                first | exact ⟨rfl, rfl, rfl⟩ | rfl
              apply wpT_read (i := 9) rfl hT rfl -- Op.binOp BinOp.add 73 t145 t148 73
              · intro w' hT'
                simp only [List.getElem_toArray, List.getElem_cons_zero, List.getElem_cons_succ]
                go_wp2_with fail
                first | exact ⟨rfl, rfl, rfl⟩ | rfl
              apply wpT_read (i := 10) rfl hT rfl -- Op.move t12
              · intro w' hT'
                simp only [List.getElem_toArray, List.getElem_cons_zero, List.getElem_cons_succ]
                go_wp2_with fail
                first | exact ⟨rfl, rfl, rfl⟩ | rfl
              apply wpT_read (i := 11) rfl hT rfl -- Op.indexAddr 84 t6 t150
              · intro w' hT'
                simp only [List.getElem_toArray, List.getElem_cons_zero, List.getElem_cons_succ]
                go_wp2_with fail
                first | exact ⟨rfl, rfl, rfl⟩ | rfl
              apply wpT_read (i := 12) rfl hT rfl -- Op.load 73 t151
              · intro w' hT'
                simp only [List.getElem_toArray, List.getElem_cons_zero, List.getElem_cons_succ]
                have cx7 : w'.cell? ⟨gv, 7, none⟩ = some (.int .u32 x7) := hT'.cell 0 rfl 7
                have ck := CK.out hT'
                have cw := CW.out hT'
                go_wp2_with fail
                first | exact ⟨rfl, rfl, rfl⟩ | rfl
              apply wpT_read (i := 13) rfl hT rfl -- Op.binOp BinOp.add 73 t149 t152 73
              · intro w' hT'
                simp only [List.getElem_toArray, List.getElem_cons_zero, List.getElem_cons_succ]
                go_wp2_with fail
                first | exact ⟨rfl, rfl, rfl⟩ | rfl
              apply wpT_read (i := 14) rfl hT rfl -- Op.assign t153
              · intro w' hT'
                simp only [List.getElem_toArray, List.getElem_cons_zero, List.getElem_cons_succ]
                go_wp2_with fail
                first | exact ⟨rfl, rfl, rfl⟩ | rfl
              refine wpT_end ?_
              try dsimp only

              replace hS := hT
              clear hT
              try go_wp2_with fail
              refine wp_region_L (T := fun w' => RV w w' g2 g4 g5 g6 gv h ks ws [x0, x1, x2, x3, x4, x5, x6, x7]) (by kernel_rfl) (by kernel_rfl) hS.drew ?_
              intro wa hT
              show wpT _ _ _ _ [0, 1, 2, 3, 4, 5, 6, 7, 8, 9, 10, 11] _ _
              apply wpT_read (i := 0) rfl hT rfl -- Op.indexAddr 74 t11 (const (0:i64))
              · intro w' hT'
                simp only [List.getElem_toArray, List.getElem_cons_zero, List.getElem_cons_succ]
                go_wp2_with fail
                first | exact ⟨rfl, rfl, rfl⟩ | rfl
              apply wpT_read (i := 1) rfl hT rfl -- Op.load 73 t154
              · intro w' hT'
                simp only [List.getElem_toArray, List.getElem_cons_zero, List.getElem_cons_succ]
                have cx0 : w'.cell? ⟨gv, 0, none⟩ = some (.int .u32 x0) := hT'.cell 0 rfl 0
                go_wp2_with fail
                first | exact ⟨rfl, rfl, rfl⟩ | rfl
              refine wpT_actL (i := 2) rfl rfl ?_ -- Op.call { value (Operand.func 45), args := #[t155, const (2:u64)], a
              simp only [List.getElem_toArray, List.getElem_cons_zero, List.getElem_cons_succ]
              go_wp2_with (first
                | (go_at_call 69; refine (rotr2_calls x0 _ r0 s0).mono ?_; rintro e w1 ⟨rfl, rfl⟩)
                | fail)
              refine OnT.mk rfl ?_ ?_
              · exact hT
              clear hT
              intro w20_2 hT
              apply wpT_read (i := 3) rfl hT rfl -- Op.indexAddr 74 t11 (const (0:i64))
              · intro w' hT'
                simp only [List.getElem_toArray, List.getElem_cons_zero, List.getElem_cons_succ]
                go_wp2_with fail
                first | exact ⟨rfl, rfl, rfl⟩ | rfl
              apply wpT_read (i := 4) rfl hT rfl -- Op.load 73 t157
              · intro w' hT'
                simp only [List.getElem_toArray, List.getElem_cons_zero, List.getElem_cons_succ]
                have cx0 : w'.cell? ⟨gv, 0, none⟩ = some (.int .u32 x0) := hT'.cell 0 rfl 0
                go_wp2_with fail
                first | exact ⟨rfl, rfl, rfl⟩ | rfl
              refine wpT_actL (i := 5) rfl rfl ?_ -- Op.call { value (Operand.func 45), args := #[t158, const (13:u64)], 
              simp only [List.getElem_toArray, List.getElem_cons_zero, List.getElem_cons_succ]
              go_wp2_with (first
                | (go_at_call 69; refine (rotr13_calls x0 _ r0 s0).mono ?_; rintro e w1 ⟨rfl, rfl⟩)
                | fail)
              refine OnT.mk rfl ?_ ?_
              · exact hT
              clear hT
              intro w20_5 hT
              apply wpT_read (i := 6) rfl hT rfl -- Op.binOp BinOp.xor 73 t156 t159 73
              · intro w' hT'
                simp only [List.getElem_toArray, List.getElem_cons_zero, List.getElem_cons_succ]
                go_wp2_with fail
                first | exact ⟨rfl, rfl, rfl⟩ | rfl
              apply wpT_read (i := 7) rfl hT rfl -- Op.indexAddr 74 t11 (const (0:i64))
              · intro w' hT'
                simp only [List.getElem_toArray, List.getElem_cons_zero, List.getElem_cons_succ]
                go_wp2_with fail
                first | exact ⟨rfl, rfl, rfl⟩ | rfl
              apply wpT_read (i := 8) rfl hT rfl -- Op.load 73 t161
              · intro w' hT'
                simp only [List.getElem_toArray, List.getElem_cons_zero, List.getElem_cons_succ]
                have cx0 : w'.cell? ⟨gv, 0, none⟩ = some (.int .u32 x0) := hT'.cell 0 rfl 0
                go_wp2_with fail
                first | exact ⟨rfl, rfl, rfl⟩ | rfl
              refine wpT_actL (i := 9) rfl rfl ?_ -- Op.call { value (Operand.func 45), args := #[t162, const (22:u64)], 
              simp only [List.getElem_toArray, List.getElem_cons_zero, List.getElem_cons_succ]
              go_wp2_with (first
                | (go_at_call 69; refine (rotr22_calls x0 _ r0 s0).mono ?_; rintro e w1 ⟨rfl, rfl⟩)
                | fail)
              refine OnT.mk rfl ?_ ?_
              · exact hT
              clear hT
              intro wm hT
              apply wpT_read (i := 10) rfl hT rfl -- Op.binOp BinOp.xor 73 t160 t163 73
              · intro w' hT'
                simp only [List.getElem_toArray, List.getElem_cons_zero, List.getElem_cons_succ]
                go_wp2_with fail
                first | exact ⟨rfl, rfl, rfl⟩ | rfl
              apply wpT_read (i := 11) rfl hT rfl -- Op.assign t164
              · intro w' hT'
                simp only [List.getElem_toArray, List.getElem_cons_zero, List.getElem_cons_succ]
                go_wp2_with fail
                first | exact ⟨rfl, rfl, rfl⟩ | rfl
              refine wpT_end ?_
              try dsimp only

              replace hS := hT
              clear hT
              have cx0 : wm.cell? ⟨gv, 0, none⟩ = some (.int .u32 x0) := hS.cell 0 rfl 0
              have cx1 : wm.cell? ⟨gv, 1, none⟩ = some (.int .u32 x1) := hS.cell 0 rfl 1
              have cx2 : wm.cell? ⟨gv, 2, none⟩ = some (.int .u32 x2) := hS.cell 0 rfl 2
              have cx3 : wm.cell? ⟨gv, 3, none⟩ = some (.int .u32 x3) := hS.cell 0 rfl 3
              have cx4 : wm.cell? ⟨gv, 4, none⟩ = some (.int .u32 x4) := hS.cell 0 rfl 4
              have cx5 : wm.cell? ⟨gv, 5, none⟩ = some (.int .u32 x5) := hS.cell 0 rfl 5
              have cx6 : wm.cell? ⟨gv, 6, none⟩ = some (.int .u32 x6) := hS.cell 0 rfl 6
              go_wp2_with (first
                | (refine hs_storeW hS 0 rfl rfl 88 _ _ rfl rfl (ints .u32 (stepS ws [x0, x1, x2, x3, x4, x5, x6, x7] i)) (by rw [HST.out]; rfl) (ints_one' _ _) _ infoW8 (by rfl) (by rfl) _ rfl ?_
                   rw [← HX.out]; clear hS; intro wy hS)
                | fail)
              go_roundg (gk - 1)
              case measure => have := hq.out; omega
              case rel => exact ⟨i + 1, by omega, by go_num, hid (by have := hq.out; omega), hS⟩
            · obtain rfl : i = 64 := by omega
              have R := roundsS_W32 b h hh 64
              have HL8 := hid (roundsS_length b h HL.out 64)
              have HF : Hd (topS h (roundsS b h 64) 8 = shaBlock h b) := hid rfl
              generalize roundsS b h 64 = ss at *
              replace hS : RV w wr g2 g4 g5 g6 gv (topS h ss 0) ks ws ss := hS
              clear hlt hi hq
              go_wp2_with fail
              go_loopg [18] 9 (fun kq v18 wr => ∃ i : Nat, i ≤ 8 ∧ v18 = .int .i64 i ∧ Hd (kq + i = 9) ∧ RV w wr g2 g4 g5 g6 gv (topS h ss i) ks ws ss)
              case atStart => exact ⟨0, by omega, rfl, hid (by omega), hS⟩
              case round =>
                clear hS
                obtain ⟨i, hi, rfl, hq, hS⟩ := hrel
                by_cases hlt : i < 8
                · have hlt2 : (i : Int) < 8 := by omega
                  have HX := hid (topS_succ h ss i)
                  have HTL : Hd ((topS h ss i).length = 8) := hid (by simp [HL.out])
                  have e1 := topS_rd h ss i i (Nat.le_refl _)
                  generalize topS h ss i = ts at *
                  obtain ⟨x, hx⟩ : ∃ x, rd h i = x := ⟨_, rfl⟩
                  obtain ⟨y, hy⟩ : ∃ y, rd ss i = y := ⟨_, rfl⟩
                  obtain ⟨rx, sx⟩ : W32 x := hx ▸ rd_all hh zero_W32 _
                  obtain ⟨ry, sy⟩ : W32 y := hy ▸ rd_all R zero_W32 _
                  rw [hx] at e1
                  rw [hx, hy] at HX
                  have C1 : Hd (∀ {w'}, RV w w' g2 g4 g5 g6 gv ts ks ws ss → w'.cell? ⟨g2, i, none⟩ = some (.int .u32 x)) := hid fun h => by rw [h.cellI 4 rfl i (by rw [HTL.out]; exact hlt), e1]
                  have C2 : Hd (∀ {w'}, RV w w' g2 g4 g5 g6 gv ts ks ws ss → w'.cell? ⟨gv, i, none⟩ = some (.int .u32 y)) := hid fun h => by rw [h.cellI 0 rfl i (by rw [HL8.out]; exact hlt), hy]
                  clear e1 hx hy
                  try go_wp2_with fail
                  refine wp_region_L (T := fun w' => RV w w' g2 g4 g5 g6 gv ts ks ws ss) (by kernel_rfl) (by kernel_rfl) hS.drew ?_
                  intro wa hT
                  show wpT _ _ _ _ [0, 1, 2, 3, 4, 5, 6, 7, 8, 9] _ _
                  apply wpT_read (i := 0) rfl hT rfl -- Op.move t18
                  · intro w' hT'
                    simp only [List.getElem_toArray, List.getElem_cons_zero, List.getElem_cons_succ]
                    go_wp2_with fail
                    first | exact ⟨rfl, rfl, rfl⟩ | rfl
                  apply wpT_read (i := 1) rfl hT rfl -- Op.move t18
                  · intro w' hT'
                    simp only [List.getElem_toArray, List.getElem_cons_zero, List.getElem_cons_succ]
                    go_wp2_with fail
                    first | exact ⟨rfl, rfl, rfl⟩ | rfl
                  apply wpT_read (i := 2) rfl hT rfl -- Op.indexAddr 74 t2 t209
                  · intro w' hT'
                    simp only [List.getElem_toArray, List.getElem_cons_zero, List.getElem_cons_succ]
                    go_wp2_with fail
                    first | exact ⟨rfl, rfl, rfl⟩ | rfl
                  apply wpT_read (i := 3) rfl hT rfl -- Op.load 73 t210
                  · intro w' hT'
                    simp only [List.getElem_toArray, List.getElem_cons_zero, List.getElem_cons_succ]
                    have c1 := C1.out hT'
                    have c2 := C2.out hT'
                    go_wp2_with fail
                    first | exact ⟨rfl, rfl, rfl⟩ | rfl
                  apply wpT_read (i := 4) rfl hT rfl -- Op.move t18
                  · intro w' hT'
                    simp only [List.getElem_toArray, List.getElem_cons_zero, List.getElem_cons_succ]
                    go_wp2_with fail
                    first | exact ⟨rfl, rfl, rfl⟩ | rfl
                  apply wpT_read (i := 5) rfl hT rfl -- Op.indexAddr 74 t11 t212
                  · intro w' hT'
                    simp only [List.getElem_toArray, List.getElem_cons_zero, List.getElem_cons_succ]
                    go_wp2_with fail
                    first | exact ⟨rfl, rfl, rfl⟩ | rfl
                  apply wpT_read (i := 6) rfl hT rfl -- Op.load 73 t213
                  · intro w' hT'
                    simp only [List.getElem_toArray, List.getElem_cons_zero, List.getElem_cons_succ]
                    have c1 := C1.out hT'
                    have c2 := C2.out hT'
                    go_wp2_with fail
                    first | exact ⟨rfl, rfl, rfl⟩ | rfl
                  apply wpT_read (i := 7) rfl hT rfl -- Op.binOp BinOp.add 73 t211 t214 73
                  · intro w' hT'
                    simp only [List.getElem_toArray, List.getElem_cons_zero, List.getElem_cons_succ]
                    go_wp2_with fail
                    first | exact ⟨rfl, rfl, rfl⟩ | rfl
                  apply wpT_read (i := 8) rfl hT rfl -- Op.indexAddr 74 t2 t208
                  · intro w' hT'
                    simp only [List.getElem_toArray, List.getElem_cons_zero, List.getElem_cons_succ]
                    go_wp2_with fail
                    first | exact ⟨rfl, rfl, rfl⟩ | rfl
                  refine wpT_totL (i := 9) rfl rfl (by kernel_rfl) ?_ -- Op.store 73 t216 t215
                  simp only [List.getElem_toArray, List.getElem_cons_zero, List.getElem_cons_succ]
                  have fz := hT.frozen 4 rfl i
                  have cc := C1.out hT
                  go_wp2_with fail
                  refine OnX.mk (fun w' => RV w w' g2 g4 g5 g6 gv (topS h ss (i + 1)) ks ws ss) rfl ?_ ?_
                  · rw [HX.out]; exact hT.setI 4 rfl i _
                  clear hT
                  clear fz cc
                  intro w26_9 hT
                  refine wpT_end ?_
                  try dsimp only

                  go_wp2_with fail
                  go_roundg (gk - 1)
                  case measure => have := hq.out; omega
                  case rel => exact ⟨i + 1, by omega, by go_num, hid (by have := hq.out; omega), hT⟩
                · obtain rfl : i = 8 := by omega
                  rw [HF.out] at hS
                  have HSB : Hd ((shaBlock h b).length = 8) := hid (by rw [shaBlock_length, HL.out])
                  obtain ⟨zs, hzs⟩ : ∃ zs, Hd (shaBlock h b = zs) := ⟨_, hid rfl⟩
                  rw [hzs.out] at hS HSB HF
                  clear hlt hi hq
                  go_wp2_with (first
                    | (refine hs_loadW hS 4 rfl rfl 88 _ rfl rfl 8 infoW8 (by simp [HSB.out]) _ arrW8 rfl _ rfl ?_)
                    | (refine hs_storeW hS 3 rfl rfl 88 _ _ rfl rfl (ints .u32 zs) rfl (ints_one' _ _) _ infoW8 (by simp [HSB.out]) (by simp) _ rfl ?_; clear hS; intro wb hS)
                    | fail)
                  exact bodyPost_ret (results_blk rfl _ _ g4 _ _ 8 _ rfl (hS.blk 3 rfl) arrW8 (by simp [HSB.out]) infoW8) rfl ⟨by rw [hzs.out], hS.bel⟩
end Go.Proofs.YtlikinglgegclaaDoor
/- Bytes, as the program knows them. -/
namespace Go.Proofs.YtlikinglgegclaaDoor
open Go.RowKit Go.Cour
theorem infoU8 : (Tryd.prog.info? 5).map (fun i => (i.zero, i.size, i.bytes)) = some (some (.int .u8 0), 1, 1) := by kernel_rfl
theorem undBytes : Tryd.prog.underlying 24 = some (.slice 5) := by kernel_rfl
end Go.Proofs.YtlikinglgegclaaDoor
/- File, Clone: bytes made of a number; a copy. -/
namespace Go.Proofs.YtlikinglgegclaaDoor
open Go.RowKit Go.Cour
theorem rd_append (xs : List Int) (y : Int) (i : Nat) : rd (xs ++ [y]) i = if i < xs.length then rd xs i else if i = xs.length then y else 0 := by
  unfold rd
  rw [List.getD_eq_getElem?_getD, List.getElem?_append]
  split
  · rw [List.getD_eq_getElem?_getD]
  · by_cases h : i = xs.length
    · simp [h]
    · rw [if_neg h, List.getElem?_eq_none (by simp; omega)]; rfl
theorem bytesOk_snoc {xs : List Int} (h : bytesOk xs) {y : Int} (h0 : 0 ≤ y) (h1 : y < 256) : bytesOk (xs ++ [y]) := by
  intro i
  rw [rd_append]
  split
  · exact h i
  · split <;> omega
def fileByte (n : Int) (i : Nat) : Int := wrap64 (wrap64 (n + i * 7) + i / 13) % 256
def fileTo (n : Int) (i : Nat) : List Int := (List.range i).map (fileByte n)
theorem fileTo_succ (n : Int) (i : Nat) : fileTo n (i + 1) = fileTo n i ++ [fileByte n i] := by simp [fileTo, List.range_succ]
theorem fileTo_length (n : Int) (i : Nat) : (fileTo n i).length = i := by simp [fileTo]
theorem fileTo_ok (n : Int) : ∀ i, bytesOk (fileTo n i)
  | 0 => fun j => by simp [fileTo, rd]
  | i + 1 => by rw [fileTo_succ]; exact bytesOk_snoc (fileTo_ok n i) (Int.emod_nonneg _ (by decide)) (Int.emod_lt_of_pos _ (by decide))
set_option maxHeartbeats 2000000 in
set_option maxRecDepth 100000 in
theorem file_calls (n : Int) (size : Nat) (w : World) (hs : size ≤ 1000000) :
    Calls Tryd.prog 8 #[.int .i64 n, .int .i64 size] w fun e w' => ∃ v, e = .returned v ∧ Own w' w.heap.size 5 .u8 v (fileTo n size) ∧ Below w.heap.size w w' := by
  go_enter Tryd.func8, Tryd.ntmps8
  go_wp2
  go_loopg [5, 6] (size + 1) (fun kq v5 v6 wr => ∃ i : Nat, i ≤ size ∧ v6 = .int .i64 i ∧ Hd (kq + i = size + 1) ∧ Own wr w.heap.size 5 .u8 v5 (fileTo n i) ∧ Below w.heap.size w wr)
  case atStart => exact ⟨0, by omega, rfl, hid (by omega), Own.nil _ _ _ _, Below.refl _ _⟩
  case round =>
    obtain ⟨i, hi, rfl, hq, ho, hb⟩ := hrel
    by_cases hlt : i < size
    · have hl := fileTo_length n i
      have HL := hid hl
      clear hl
      have hz := hb.size
      go_wp2_with (at_builtin; refine append_one rfl (.tmp 12) (.tmp 21) 24 rfl w.heap.size 5 .u8 1 undBytes infoU8 _ (fileTo n i) rfl ho _ rfl (by rw [HL.out]; omega) (by rw [HL.out]; omega) hz ?_; intro v' w1 ho' hg')
      go_roundg (gk - 1)
      case measure => have := hq.out; omega
      case rel => exact ⟨i + 1, by omega, by go_num, hid (by have := hq.out; omega), by rw [fileTo_succ]; exact ho', ho.grown_below hb hg' hz (Nat.le_refl _)⟩
    · obtain rfl : i = size := by omega
      go_wp2
      go_ret
      exact ⟨_, rfl, ho, hb⟩
end Go.Proofs.YtlikinglgegclaaDoor
/- courierref.Bytes: a copy. -/
namespace Go.Proofs.YtlikinglgegclaaDoor
open Go.RowKit Go.Cour
theorem make_cap {P : Program} (t e : TypeId) (z : Value) (bytes : Nat) (ht : P.underlying t = some (.slice e)) (hinfo : (P.info? e).map (fun i => (i.zero, i.size, i.bytes)) = some (some z, 1, bytes)) (hz1 : z.cells = #[z])
    (kl kc : IntKind) (n : Nat) (hbytes : bytes * n ≤ 281474976710656) (h63 : n ≤ 9223372036854775807) (w : World) :
    (Instr.makeSlice t (.int kl 0) (.int kc (n : Int))).run P w = .ok (.slice (some ⟨w.heap.size, 0, none⟩) 0 n) (w.alloc (.cells (madeCells #[z] n) e)) := by
  obtain ⟨i, hi, hzz⟩ := Option.map_eq_some_iff.1 hinfo
  simp only [Prod.mk.injEq] at hzz
  obtain ⟨hz, hs, hb⟩ := hzz
  have hb' : (i.bytes : Int) * (n : Int) ≤ 281474976710656 := by
    have h : ((i.bytes * n : Nat) : Int) ≤ 281474976710656 := by rw [hb]; omega
    rwa [Int.natCast_mul] at h
  have hr := run_make (P := P) w t e i z ht hi hz kl kc 0 n (Int.le_refl _) (by omega) hb' (by omega)
  simp only [Int.toNat_natCast, hs, Nat.mul_one, hz1] at hr
  exact hr
set_option maxHeartbeats 1000000 in
set_option maxRecDepth 100000 in
theorem bytes_calls (xs : List Int) (A : Option Addr) (c m : Nat) (w : World) (hm : m = xs.length) (hr : Rd w A .u8 xs) (hl : m ≤ 1000000) :
    Calls Tryd.prog 23 #[.slice A m c] w fun e w' => ∃ v, e = .returned v ∧ Own w' w.heap.size 5 .u8 v xs ∧ Below w.heap.size w w' := by
  have HM := hid hm
  have HR := hid hr
  clear hm hr
  have hmk := make_cap (P := Tryd.prog) 24 5 (.int .u8 0) 1 undBytes infoU8 rfl .i64 .i64 m (by omega) (by omega)
  go_enter Tryd.func23, Tryd.ntmps23
  go_wp2_with fail
  clear hmk
  have h0 : Own (w.alloc (.cells (madeCells #[.int .u8 0] m) 5)) w.heap.size 5 .u8 (.slice (some ⟨w.heap.size, 0, none⟩) 0 m) [] :=
    ⟨by simp [ints], .inr ⟨w.heap.size, m, _, rfl, Nat.le_refl _, heap_alloc_new w _, Nat.zero_le _, by unfold maxLen; omega, by rw [made_ints]; simp, by simp [ints]⟩⟩
  have hB0 : Below w.heap.size w (w.alloc (.cells (madeCells #[.int .u8 0] m) 5)) := (Below.refl _ _).alloc (Nat.le_refl _) _
  generalize w.alloc (.cells (madeCells #[.int .u8 0] m) 5) = w1 at *
  go_loopg [3, 4] (m + 1) (fun kq v3 v4 wr => ∃ i : Nat, i ≤ m ∧ v4 = .int .i64 i ∧ Hd (kq + i = m + 1) ∧ Own wr w.heap.size 5 .u8 v3 (xs.take i) ∧ Below w.heap.size w wr)
  case atStart => exact ⟨0, by omega, rfl, hid (by omega), h0, hB0⟩
  case round =>
    clear h0 hB0
    obtain ⟨i, hi, rfl, hq, ho, hB⟩ := hrel
    obtain ⟨ts, hts⟩ : ∃ ts, Hd (xs.take i = ts) := ⟨_, ⟨rfl⟩⟩
    rw [hts.out] at ho
    have htl : Hd (ts.length = i) := hid (by rw [← hts.out, List.length_take, ← HM.out]; omega)
    by_cases hlt : i < m
    · obtain ⟨g, o, rfl⟩ := HR.out.at (by rw [← HM.out]; omega)
      have cx := (HR.out.below hB).cellAt i (by rw [← HM.out]; omega)
      have a1 : (i : Int) < m := by omega
      obtain ⟨x, hx⟩ : ∃ x, Hd (x = rd xs i) := ⟨_, hid rfl⟩
      rw [← hx.out] at cx
      have hts1 : Hd (ts ++ [x] = xs.take (i + 1)) := hid (by
        rw [← hts.out, hx.out, List.take_add_one]
        congr 1
        have hlx : i < xs.length := by rw [← HM.out]; exact hlt
        rw [List.getElem?_eq_getElem hlx]
        simp [rd, hlx])
      go_wp2_with (first
        | (at_builtin; refine append_one rfl (.tmp 14) (.tmp 19) 24 rfl w.heap.size 5 .u8 1 undBytes infoU8 _ ts rfl ho x rfl (by rw [htl.out]; omega) (by rw [htl.out]; omega) hB.size ?_; intro v' w2 ho' hg'; rw [hts1.out] at ho')
        | fail)
      go_roundg (gk - 1)
      case measure => have := hq.out; omega
      case rel => exact ⟨i + 1, by omega, by go_num, hid (by have := hq.out; omega), ho', ho.grown_below hB hg' hB.size (Nat.le_refl _)⟩
    · obtain rfl : i = m := by omega
      have hte : Hd (ts = xs) := hid (by rw [← hts.out, List.take_of_length_le (by rw [← HM.out]; omega)])
      go_wp2_with fail
      go_ret
      rw [hte.out] at ho
      exact ⟨_, rfl, ho, hB⟩
end Go.Proofs.YtlikinglgegclaaDoor
/- courierref.Bytes: see Bytes. -/
/- s[p:h] of a slice, a slice's part read. -/
namespace Go.Cour
open Go.RowKit
section
variable {P : Program} {w : World} {ops : Array Oper} {rest : List Oper} {o : Oper} {a : Act} {Q : Exit → Act → World → Prop}
theorem slice_two (hw : Region.wanted o (yielded ops a.tmps) = true) (x y z : Operand) (t : TypeId) (ho : o.op = .slice t x (some y) (some z) none) (e : TypeId)
    (hu : P.underlying t = some (.slice e)) (hsz : (P.info? e).map (·.size) = some 1) (g off m c p h n : Nat) (hx : a.eval x = .slice (some ⟨g, off, none⟩) m c) (hy : a.eval y = .int .i64 (p : Int)) (hz : a.eval z = .int .i64 (h : Int)) (hph : p ≤ h) (hhc : h ≤ c) (hpc : p < c) (hn : h - p = n) (d : Option Tmp) (hd : o.dst = d)
    (hk : wpList P ops Q rest (a.put d (.slice (some ⟨g, off + p, none⟩) n (c - p))) w) : wpList P ops Q (o :: rest) a w := by
  subst hd hn
  obtain ⟨i, hi, hs⟩ : ∃ i, P.info? e = some i ∧ i.size = 1 := by
    cases hie : P.info? e with
    | none => simp [hie] at hsz
    | some i => exact ⟨i, rfl, by simpa [hie] using hsz⟩
  refine wpList_step fun K hK => ?_
  rw [if_pos hw]
  have hs2 : (sizeOf e).run P w = .ok 1 w := by simp [sizeOf, typeInfo, hi, hs]
  have hne : ¬ c = p := by omega
  have hrun : (Instr.slice t (.slice (some ⟨g, off, none⟩) m c) (some (.int .i64 (p : Int))) (some (.int .i64 (h : Int))) none).run P w = .ok (.slice (some ⟨g, off + p, none⟩) (h - p) (c - p)) w := by
    simp [Instr.slice, run_underlying hu, Instr.sliceBounds, run_sliceBound, hs2, hph, hhc, hne, add_lit]
  have hrun2 : (Instr.sliceAt t (.slice (some ⟨g, off, none⟩) m c) (some (.int .i64 (p : Int))) (some (.int .i64 (h : Int))) none).run P w = .ok (.slice (some ⟨g, off + p, none⟩) (h - p) (c - p)) w := by
    rw [← hrun]; simp [Instr.sliceAt, run_underlying hu]
  unfold Oper.wp execOp
  simp only [ho, hx, hy, hz, Option.map_some, Option.map_none]
  simp [hrun2]
  exact hK _ _ hk
end
end Go.Cour
/- The reference's digest. -/
namespace Go.Proofs.YtlikinglgegclaaDoor
open Go.RowKit Go.Cour
set_option maxHeartbeats 4000000 in
set_option maxRecDepth 100000 in
theorem sum1_calls (xs : List Int) (A : Option Addr) (m c : Nat) (w : World) (hm : xs.length = m) (hr : Rd w A .u8 xs) (hx : ∀ x ∈ xs, B8 x) (hsz : m ≤ 1000000) :
    Calls Tryd.prog 13 #[.slice A m c] w fun e w' => e = .returned (.agg (ints .u8 (shaOf xs)).toArray) ∧ Below w.heap.size w w' := by
  have HM := hid hm
  have HR := hid hr
  have HX8 := hid hx
  have hS := HS.start NoF w
  clear hm hr hx
  go_enter Tryd.func13, Tryd.ntmps13
  go_wp2_with (first
    | (refine alloc_blk rfl 30 rfl _ rfl (ints .u8 (List.replicate 32 0)) zeroHashS ?_; intro g2 w2 hga hba hBa hsa; replace hS := hS.pushBlk hBa hba hga; clear hga hba hBa hsa)
    | (go_at_call 23; refine (bytes_calls xs A c m _ HM.out.symm (hS.oldRd HR.out (fun _ _ _ h => h)) (by omega)).mono ?_; rintro e w3 ⟨v3, rfl, ho, hB⟩
       obtain ⟨A1, c1, rfl, hc1, hA1⟩ := ho.partsL HM.out
       replace hS := hS.pushOwn hB ho
       clear ho hB)
    | (refine hs_one hS rfl 24 5 _ rfl undBytesS sizeU8S zeroU8S (.int .u8 128) rfl rfl _ rfl ?_; clear hS; intro go wo hgo hBo hS; clear hgo hBo)
    | (refine hs_append hS 1 rfl rfl _ _ 24 rfl 1 undBytesS infoU8S zeroU8S rfl (some ⟨go, 0, none⟩) 1 1 rfl (ints .u8 [128]) rfl (news_of_rd (OwnS.rd (k := .u8) (xs := [128]) (hS.os 0 rfl) rfl)) (ints_one' _ _) (by rw [ints_length, HM.out]; omega) (by rw [ints_length, HM.out]; omega) _ rfl ?_
       clear hS; intro A3 n3 c3 w5 hn3 hc3 hA3 hS; have HN3 := hid hn3; clear hn3
       replace hS : HS NoF w w5 [.os 5 (.slice A3 n3 c3) (ints .u8 (xs ++ [128])), Z32 g2] := by rw [ints_append]; exact hS.erase 0)
    | fail)
  have HN3' : Hd (n3 = m + 1) := hid (by rw [← HN3.out, List.length_append, ints_length, ints_length, HM.out]; rfl)
  clear HN3 hc1 hA1
  go_loopg [3] (padZ m + 1) (fun kq v3 wr => ∃ (k : Nat) (A1 : Option Addr) (n1 c1 : Nat), k ≤ padZ m ∧ v3 = .slice A1 n1 c1 ∧ n1 ≤ c1 ∧ Hd (n1 = m + 1 + k) ∧ Hd (kq + k = padZ m + 1) ∧ HS NoF w wr [.os 5 (.slice A1 n1 c1) (ints .u8 (xs ++ [128] ++ List.replicate k 0)), Z32 g2])
  case atStart => exact ⟨0, A3, n3, c3, Nat.zero_le _, rfl, hc3, hid HN3'.out, hid (by omega), by simpa using hS⟩
  case round =>
    clear hS HN3' hA3 hc3
    obtain ⟨k, A1, n1, c1, hk, rfl, hnc1, hn1, hq, hS⟩ := hrel
    have hlt64 : m % 64 < 64 := Nat.mod_lt _ (by decide)
    have hpz : Hd (padZ m = (119 - m % 64) % 64) := hid rfl
    by_cases hlt : k < padZ m
    · have h56 : ¬ (n1 : Int) % 64 = 56 := by have := hn1.out; have := hpz.out; omega
      have h56' : ¬ n1 % 64 = 56 := by have := hn1.out; have := hpz.out; omega
      have hb1 : n1 ≤ 1000100 := by have := hn1.out; have := hpz.out; omega
      have HLT : Hd ((xs ++ [128] ++ List.replicate k 0).length = n1) := hid (by simp [HM.out]; have := hn1.out; omega)
      have HTS : Hd (xs ++ [128] ++ List.replicate k 0 ++ [0] = xs ++ [128] ++ List.replicate (k + 1) 0) := hid (by rw [List.append_assoc (xs ++ [128]), ← List.replicate_succ'])
      obtain ⟨ts, hts⟩ : ∃ ts, Hd (xs ++ [128] ++ List.replicate k 0 = ts) := ⟨_, hid rfl⟩
      rw [hts.out] at hS HLT HTS
      clear hlt64
      go_wp2_with (first
    | (refine hs_one hS rfl 24 5 _ rfl undBytesS sizeU8S zeroU8S (.int .u8 (0)) rfl rfl _ rfl ?_; clear hS; intro go wo hgo hBo hS; clear hgo hBo)
    | (refine hs_append hS 1 rfl rfl _ _ 24 rfl 1 undBytesS infoU8S zeroU8S rfl (some ⟨go, 0, none⟩) 1 1 rfl (ints .u8 [0]) rfl (news_of_rd (OwnS.rd (k := .u8) (xs := [0]) (hS.os 0 rfl) rfl)) (ints_one' _ _) (by rw [ints_length, HLT.out]; omega) (by rw [ints_length, HLT.out]; omega) _ rfl ?_
       clear hS; intro A3 n3 c3 w5 hn3 hc3 hA3 hS; have HN3 := hid hn3; clear hn3
       replace hS : HS NoF w w5 [.os 5 (.slice A3 n3 c3) (ints .u8 (ts ++ [0])), Z32 g2] := by rw [ints_append]; exact hS.erase 0)
    | fail)
      go_roundg (gk - 1)
      case measure => have := hq.out; omega
      case rel => exact ⟨k + 1, A3, n3, c3, by omega, rfl, hc3, hid (by have := HN3.out; have := hn1.out; have := HLT.out; simp at *; omega), hid (by have := hq.out; omega), HTS.out ▸ hS⟩
    · obtain rfl : k = padZ m := by omega
      have h56 : (n1 : Int) % 64 = 56 := by have := hn1.out; have := hpz.out; omega
      have h56' : n1 % 64 = 56 := by have := hn1.out; have := hpz.out; omega
      have hnb : Hd (n1 ≤ 1000100) := hid (by have := hn1.out; have := hpz.out; omega)
      clear hlt hk hq hlt64
      have hb1 : n1 ≤ 1000100 := hnb.out
      go_wp2_with fail
      clear h56 h56'
      have hN8 : Hd (padOf m = [128] ++ List.replicate (padZ m) 0 ++ lenBs m 8) := hid rfl
      go_loopg [3, 5] 9 (fun kq v3 v5 wr => ∃ (k : Nat) (A1 : Option Addr) (m1 c1 : Nat), k ≤ 8 ∧ v3 = .slice A1 m1 c1 ∧ m1 ≤ c1 ∧ v5 = .int .i64 (7 - (k : Int)) ∧ Hd (m1 = n1 + k) ∧ Hd (kq + k = 9) ∧ HS NoF w wr [.os 5 (.slice A1 m1 c1) (ints .u8 (xs ++ [128] ++ List.replicate (padZ m) 0 ++ lenBs m k)), Z32 g2])
      case atStart => exact ⟨0, A1, n1, c1, Nat.zero_le _, rfl, hnc1, rfl, hid rfl, hid (by omega), by simpa [lenBs] using hS⟩
      case round =>
        clear hS hnc1
        obtain ⟨k, A1, m1, c1, hk, rfl, hnc1, rfl, hm1, hq, hS⟩ := hrel
        by_cases hlt : k < 8
        · obtain ⟨t, ht⟩ : ∃ t : Nat, 7 - k = t := ⟨_, rfl⟩
          have e7 : 7 - (k : Int) = (t : Int) := by omega
          have e7' : Hd ((t : Int) - 1 = 7 - ((k + 1 : Nat) : Int)) := hid (by omega)
          obtain ⟨s, hs'⟩ : ∃ s : Nat, 8 * t = s := ⟨_, rfl⟩
          have e8 : 8 * (t : Int) = (s : Int) := by omega
          have ht0 : (0 : Int) ≤ t := by omega
          have hs64 : s ≤ 56 := by omega
          have hLB : Hd (lenB m k = (m : Int) * 8 / 2 ^ s % 256) := hid (by unfold lenB; rw [show 56 - 8 * k = s by omega])
          have HTS : Hd (xs ++ [128] ++ List.replicate (padZ m) 0 ++ lenBs m k ++ [(m : Int) * 8 / 2 ^ s % 256] = xs ++ [128] ++ List.replicate (padZ m) 0 ++ lenBs m (k + 1)) := hid (by rw [List.append_assoc, ← hLB.out, ← lenBs_succ])
          have HLT : Hd ((xs ++ [128] ++ List.replicate (padZ m) 0 ++ lenBs m k).length = m1) := hid (by simp [lenBs, HM.out]; have := hm1.out; have := hn1.out; omega)
          have hmb : m1 ≤ 1000200 := by have := hm1.out; have := hnb.out; omega
          obtain ⟨ts, hts⟩ : ∃ ts, Hd (xs ++ [128] ++ List.replicate (padZ m) 0 ++ lenBs m k = ts) := ⟨_, hid rfl⟩
          rw [hts.out] at hS HLT HTS
          clear hs' ht hb1
          go_wp2_with (first
    | (refine hs_one hS rfl 24 5 _ rfl undBytesS sizeU8S zeroU8S (.int .u8 ((m : Int) * 8 / 2 ^ s % 256)) rfl rfl _ rfl ?_; clear hS; intro go wo hgo hBo hS; clear hgo hBo)
    | (refine hs_append hS 1 rfl rfl _ _ 24 rfl 1 undBytesS infoU8S zeroU8S rfl (some ⟨go, 0, none⟩) 1 1 rfl (ints .u8 [(m : Int) * 8 / 2 ^ s % 256]) rfl (news_of_rd (OwnS.rd (k := .u8) (xs := [(m : Int) * 8 / 2 ^ s % 256]) (hS.os 0 rfl) rfl)) (ints_one' _ _) (by rw [ints_length, HLT.out]; omega) (by rw [ints_length, HLT.out]; omega) _ rfl ?_
       clear hS; intro A3 n3 c3 w5 hn3 hc3 hA3 hS; have HN3 := hid hn3; clear hn3
       replace hS : HS NoF w w5 [.os 5 (.slice A3 n3 c3) (ints .u8 (ts ++ [(m : Int) * 8 / 2 ^ s % 256])), Z32 g2] := by rw [ints_append]; exact hS.erase 0)
    | fail)
          go_roundg (gk - 1)
          case measure => have := hq.out; omega
          case rel => exact ⟨k + 1, A3, n3, c3, by omega, rfl, hc3, by rw [e7'.out], hid (by have h1 := HN3.out; have h2 := hm1.out; have h3 := HLT.out; simp at h1; omega), hid (by have := hq.out; omega), HTS.out ▸ hS⟩
        · obtain rfl : k = 8 := by omega
          have HPAD : Hd (xs ++ [128] ++ List.replicate (padZ m) 0 ++ lenBs m 8 = xs ++ padOf m) := hid (by rw [hN8.out]; simp)
          rw [HPAD.out] at hS
          have HPB : Hd (∀ x ∈ xs ++ padOf m, B8 x) := hid fun x hx => by
            rcases List.mem_append.1 hx with hx | hx
            · exact HX8.out x hx
            · exact padOf_B8 m x hx
          have HP64 : Hd ((xs ++ padOf m).length % 64 = 0) := hid (by rw [List.length_append, HM.out]; exact padOf_length m)
          have HPL : Hd ((xs ++ padOf m).length = m1) := hid (by rw [← HPAD.out]; simp [lenBs, HM.out]; have := hm1.out; have := hn1.out; omega)
          have HEQ : Hd (shaOf xs = outSh (blocksS shaH0 (xs ++ padOf m) ((xs ++ padOf m).length / 64)) 32) := hid (by unfold shaOf; rw [HM.out])
          obtain ⟨ps, hps⟩ : ∃ ps, Hd (xs ++ padOf m = ps) := ⟨_, hid rfl⟩
          rw [hps.out] at hS HPB HP64 HPL HEQ
          obtain ⟨Q, hQ⟩ : ∃ Q, Hd (ps.length / 64 = Q) := ⟨_, hid rfl⟩
          rw [hQ.out] at HEQ
          have HQ : Hd (m1 = 64 * Q) := hid (by have := HPL.out; have := HP64.out; have := hQ.out; omega)
          have hmb : m1 ≤ 1000200 := by have := hm1.out; have := hnb.out; omega
          have hneg : (7 : Int) - (8 : Nat) = -1 := by decide
          clear hlt hk hm1 hn1 hnb hN8 hq hb1
          go_wp2_with (first
            | (refine wpList_buildFlatArr rfl 88 29 8 _ rfl .u32 shaH0 arrW8 sizeU32 (by kernel_rfl) (by rfl) ?_)
            | (refine alloc_blk rfl 88 rfl _ rfl (ints .u32 (List.replicate 8 0)) zeroW8 ?_; intro g6 w7 hga hba hBa hsa; replace hS := hS.pushBlk hBa hba hga; clear hga hba hBa hsa)
            | (refine hs_storeW hS 0 rfl rfl 88 _ _ rfl rfl (ints .u32 shaH0) rfl (ints_one' _ _) _ infoW8 (by rfl) (by simp) _ rfl ?_; clear hS; intro wb hS)
            | fail)
          replace hS : HS NoF w wb [.blk g6 88 (ints .u32 (blocksS shaH0 ps 0)), .os 5 (.slice A1 m1 c1) (ints .u8 ps), Z32 g2] := hS
          clear hneg HPAD
          go_loopg [7] (Q + 1) (fun kq v7 wr => ∃ (q p : Nat), q ≤ Q ∧ p = 64 * q ∧ v7 = .int .i64 p ∧ Hd (kq + q = Q + 1) ∧ HS NoF w wr [.blk g6 88 (ints .u32 (blocksS shaH0 ps q)), .os 5 (.slice A1 m1 c1) (ints .u8 ps), Z32 g2])
          case atStart => exact ⟨0, 0, Nat.zero_le _, rfl, rfl, hid (by omega), hS⟩
          case round =>
            clear hS
            obtain ⟨q, p, hqQ, hp, rfl, hq, hS⟩ := hrel
            have HP := hid hp
            clear hp
            by_cases hlt : q < Q
            · have hpm : p < m1 := by have := HP.out; have := HQ.out; omega
              have hpm2 : (p : Int) < m1 := by omega
              have hp64 : p + 64 ≤ m1 := by have := HP.out; have := HQ.out; omega
              obtain ⟨g, o, rfl⟩ := ((hS.os 1 rfl).rd rfl).at (by rw [HPL.out]; omega)
              have HX := hid (blocksS_succ shaH0 ps q)
              rw [← HP.out] at HX
              have HATf : Hd (∀ {w'}, HS NoF w w' [.blk g6 88 (ints .u32 (blocksS shaH0 ps q)), .os 5 (.slice (some ⟨g, o, none⟩) m1 c1) (ints .u8 ps), Z32 g2] → At w' g (o + p) ((ps.drop p).take 64) 64) := hid fun h i hi => by
                rw [rd_take _ _ _ hi, rd_drop, Nat.add_assoc]
                exact ((h.os 1 rfl).rd rfl).cellAt (p + i) (by rw [HPL.out]; omega)
              have hr8 : Hd (∀ i, 0 ≤ rd ((ps.drop p).take 64) i ∧ rd ((ps.drop p).take 64) i < 256) := hid (rd_all (P := B8) (fun x hx => HPB.out x (List.mem_of_mem_drop (List.mem_of_mem_take hx))) zero_B8)
              have HBL := hid (blocksS_length shaH0 ps (by rfl) q)
              have HBW := hid (blocksS_W32 shaH0 ps shaH0_W32 q)
              obtain ⟨bs, hbs⟩ : ∃ bs, Hd (blocksS shaH0 ps q = bs) := ⟨_, hid rfl⟩
              obtain ⟨ns, hns⟩ : ∃ ns, Hd (shaBlock bs ((ps.drop p).take 64) = ns) := ⟨_, hid rfl⟩
              rw [hbs.out] at hS HX HATf HBL HBW
              have HNL : Hd (ns.length = 8) := hid (by rw [← hns.out, shaBlock_length, HBL.out])
              rw [hns.out] at HX
              try go_wp2_with fail
              refine wp_region_S (F := NoF) (w0 := w) (L0 := [.blk g6 88 (ints .u32 bs), .os 5 (.slice (some ⟨g, o, none⟩) m1 c1) (ints .u8 ps), Z32 g2]) [6] [7]
                (fun iK u E => match iK with
                  | 6 => u = .agg (ints .u32 ns).toArray ∧ E = []
                  | _ => False)
                ([]) (by kernel_rfl) (by kernel_rfl) hS ?_
              show wpS _ _ _ _ _ _ _ _ _ _ [0, 1, 2, 3, 4, 5, 6, 7] _
              apply wpS_read (i := 0) rfl rfl ⟨_, hS⟩ rfl -- Op.load 74 t6
              · intro w' hT'
                simp only [List.getElem_toArray, List.getElem_cons_zero, List.getElem_cons_succ]
                go_wp2_with (first
                  | (refine hs_loadW hT' 0 rfl rfl 88 _ rfl rfl 8 infoW8 (by simp [HBL.out]) _ arrW8 rfl _ rfl ?_)
                  | (refine slice_two rfl _ _ _ 24 rfl 5 undBytesS sizeU8S g o m1 c1 p (p + 64) 64 rfl rfl rfl (by omega) (by omega) (by omega) (by omega) _ rfl ?_)
                  | fail)
                first | exact ⟨rfl, rfl, rfl⟩ | rfl
              apply wpS_read (i := 1) rfl rfl ⟨_, hS⟩ rfl -- Op.move t3
              · intro w' hT'
                simp only [List.getElem_toArray, List.getElem_cons_zero, List.getElem_cons_succ]
                go_wp2_with fail
                first | exact ⟨rfl, rfl, rfl⟩ | rfl
              apply wpS_read (i := 2) rfl rfl ⟨_, hS⟩ rfl -- Op.move t7
              · intro w' hT'
                simp only [List.getElem_toArray, List.getElem_cons_zero, List.getElem_cons_succ]
                go_wp2_with fail
                first | exact ⟨rfl, rfl, rfl⟩ | rfl
              apply wpS_read (i := 3) rfl rfl ⟨_, hS⟩ rfl -- Op.move t7
              · intro w' hT'
                simp only [List.getElem_toArray, List.getElem_cons_zero, List.getElem_cons_succ]
                go_wp2_with fail
                first | exact ⟨rfl, rfl, rfl⟩ | rfl
              apply wpS_read (i := 4) rfl rfl ⟨_, hS⟩ rfl -- Op.binOp BinOp.add 3 t48 (const (64:i64)) 3
              · intro w' hT'
                simp only [List.getElem_toArray, List.getElem_cons_zero, List.getElem_cons_succ]
                go_wp2_with (first
                  | (refine hs_loadW hT' 0 rfl rfl 88 _ rfl rfl 8 infoW8 (by simp [HBL.out]) _ arrW8 rfl _ rfl ?_)
                  | (refine slice_two rfl _ _ _ 24 rfl 5 undBytesS sizeU8S g o m1 c1 p (p + 64) 64 rfl rfl rfl (by omega) (by omega) (by omega) (by omega) _ rfl ?_)
                  | fail)
                first | exact ⟨rfl, rfl, rfl⟩ | rfl
              apply wpS_read (i := 5) rfl rfl ⟨_, hS⟩ rfl -- Op.slice 41 t46 (some t47) (some t49) none
              · intro w' hT'
                simp only [List.getElem_toArray, List.getElem_cons_zero, List.getElem_cons_succ]
                go_wp2_with (first
                  | (refine hs_loadW hT' 0 rfl rfl 88 _ rfl rfl 8 infoW8 (by simp [HBL.out]) _ arrW8 rfl _ rfl ?_)
                  | (refine slice_two rfl _ _ _ 24 rfl 5 undBytesS sizeU8S g o m1 c1 p (p + 64) 64 rfl rfl rfl (by omega) (by omega) (by omega) (by omega) _ rfl ?_)
                  | fail)
                first | exact ⟨rfl, rfl, rfl⟩ | rfl
              refine wpS_soft (i := 6) rfl rfl rfl (Nat.le_of_ble_eq_true rfl) ?_ ?_ -- Op.call { value (Operand.func 36), args := #[t45, t50], argTypes := 
              · intro w' hT
                simp only [List.getElem_toArray, List.getElem_cons_zero, List.getElem_cons_succ]
                go_wp2_with (first
                  | (go_at_call 40; refine (round1_calls bs ((ps.drop p).take 64) g (o + p) 64 (c1 - p) _ HBL.out HBW.out (HATf.out hT) hr8.out (Nat.le_refl _)).mono ?_; rintro e wz ⟨rfl, hB⟩; rw [hns.out])
                  | fail)
                exact SoftP.mk' (.agg (ints .u32 ns).toArray) ([]) rfl (⟨rfl, rfl⟩) (hT.below hB) (hB) (fun _ h => by cases h)
              intro u6 E6 hK6
              obtain ⟨rfl, rfl⟩ := hK6
              simp only [Act.put, List.setIfInBounds_toArray, List.set_cons_zero, List.set_cons_succ]
              refine wpS_tot (i := 7) rfl rfl (by kernel_rfl) ?_ -- Op.store 74 t6 t51
              intro w7 hT
              replace hT : HS NoF w w7 [.blk g6 88 (ints .u32 bs), .os 5 (.slice (some ⟨g, o, none⟩) m1 c1) (ints .u8 ps), Z32 g2] := hT
              simp only [List.getElem_toArray, List.getElem_cons_zero, List.getElem_cons_succ]
              go_wp2_with (first
                | (refine hs_storeW hT 0 rfl rfl 88 _ _ rfl rfl (ints .u32 ns) rfl (ints_one' _ _) _ infoW8 (by simp [HNL.out]) (by simp [HBL.out]) _ rfl ?_; clear hT; intro wz hT)
                | fail)
              refine TotP.mk' ([.blk g6 88 (ints .u32 ns), .os 5 (.slice (some ⟨g, o, none⟩) m1 c1) (ints .u8 ps), Z32 g2]) rfl ?_ ?_
              · exact hT
              clear hT
              refine wpS_end ?_
              intro wz hT
              try dsimp only

              have HPP : Hd (p + 64 = 64 * (q + 1)) := hid (by have := HP.out; omega)
              rw [← HX.out] at hT
              go_wp2_with fail
              go_roundg (gk - 1)
              case measure => have := hq.out; omega
              case rel => exact ⟨q + 1, p + 64, by omega, HPP.out, by go_num, hid (by have := hq.out; omega), hT⟩
            · obtain rfl : q = Q := by omega
              have hpe : p = m1 := by have := HP.out; have := HQ.out; omega
              have hpm2 : ¬ (p : Int) < m1 := by omega
              have hpm3 : (m1 : Int) ≤ p := by omega
              clear hpe
              obtain ⟨hz, hhz⟩ : ∃ hz, Hd (blocksS shaH0 ps q = hz) := ⟨_, hid rfl⟩
              have HZL : Hd (hz.length = 8) := hid (hhz.out ▸ blocksS_length shaH0 ps (by rfl) _)
              have HZW : Hd (∀ x ∈ hz, W32 x) := hid (hhz.out ▸ blocksS_W32 shaH0 ps shaH0_W32 _)
              rw [hhz.out] at hS HEQ
              clear hlt hqQ hq
              go_wp2_with (first
                | (refine alloc_blk rfl 30 rfl _ rfl (ints .u8 (List.replicate 32 0)) zeroHashS ?_; intro g8 w8 hga hba hBa hsa; replace hS := hS.pushBlk hBa hba hga; clear hga hba hBa hsa)
                | fail)
              replace hS : HS NoF w w8 [.blk g8 30 (ints .u8 (outSh hz 0)), .blk g6 88 (ints .u32 hz), .os 5 (.slice A1 m1 c1) (ints .u8 ps), Z32 g2] := hS
              clear hpm2 hpm3
              go_loopg [9] 33 (fun kq v9 wr => ∃ k : Nat, k ≤ 32 ∧ v9 = .int .i64 k ∧ Hd (kq + k = 33) ∧ HS NoF w wr [.blk g8 30 (ints .u8 (outSh hz k)), .blk g6 88 (ints .u32 hz), .os 5 (.slice A1 m1 c1) (ints .u8 ps), Z32 g2])
              case atStart => exact ⟨0, by omega, rfl, hid (by omega), hS⟩
              case round =>
                clear hS
                obtain ⟨k, hk, rfl, hq, hS⟩ := hrel
                by_cases hlt : k < 32
                · have hlt2 : (k : Int) < 32 := by omega
                  obtain ⟨j, hj⟩ : ∃ j : Nat, k / 4 = j := ⟨_, rfl⟩
                  obtain ⟨r, hr⟩ : ∃ r : Nat, k % 4 = r := ⟨_, rfl⟩
                  obtain ⟨s, hs'⟩ : ∃ s : Nat, 24 - 8 * r = s := ⟨_, rfl⟩
                  have e1 : (k : Int) / 4 = (j : Int) := by omega
                  have e2 : (k : Int) % 4 = (r : Int) := by omega
                  have e3 : 24 - 8 * (r : Int) = (s : Int) := by omega
                  have hj8 : j < 8 := by omega
                  have hr4 : r < 4 := by omega
                  have hs24 : s ≤ 24 := by omega
                  have HX := hid (outSh_succ hz k)
                  have HB1 : Hd (outB hz k = rd hz j / 2 ^ s % 256) := hid (by unfold outB; rw [hj, hr, hs'])
                  obtain ⟨x, hx⟩ : ∃ x, rd hz j = x := ⟨_, rfl⟩
                  obtain ⟨rx, sx⟩ : W32 x := hx ▸ rd_all HZW.out zero_W32 _
                  rw [hx] at HB1
                  have cx : wr.cell? ⟨g6, j, none⟩ = some (.int .u32 x) := by rw [hS.cellI 1 rfl j (by rw [HZL.out]; omega), hx]
                  clear hj hr hs' hx
                  go_wp2_with (first
                    | (refine hs_store1 hS 0 rfl rfl 5 _ _ rfl k rfl (.int .u8 (x / 2 ^ s % 256)) rfl rfl sizeU8S (by simp; omega) _ rfl ?_
                       clear hS cx; intro w8 hS; rw [ints_set, ← HB1.out, ← HX.out] at hS)
                    | fail)
                  go_roundg (gk - 1)
                  case measure => have := hq.out; omega
                  case rel => exact ⟨k + 1, by omega, by go_num, hid (by have := hq.out; omega), hS⟩
                · obtain rfl : k = 32 := by omega
                  rw [← HEQ.out] at hS
                  have HLL : Hd ((shaOf xs).length = 32) := hid (shaOf_length xs)
                  obtain ⟨ds, hds⟩ : ∃ ds, Hd (shaOf xs = ds) := ⟨_, hid rfl⟩
                  rw [hds.out] at hS HLL HEQ
                  clear hlt hk hq
                  go_wp2_with (first
                    | (refine hs_loadW hS 0 rfl rfl 30 _ rfl rfl 32 infoHashS (by simp [HLL.out]) _ arrHashS rfl _ rfl ?_)
                    | (refine hs_storeW hS 3 rfl rfl 30 _ _ rfl rfl (ints .u8 ds) rfl (ints_one' _ _) _ infoHashS (by simp [HLL.out]) (by simp) _ rfl ?_; clear hS; intro w9 hS)
                    | fail)
                  refine bodyPost_ret (results_blk rfl _ _ g2 _ _ 32 _ rfl (hS.blk 3 rfl) arrHashS (by simp [HLL.out]) infoHashS) rfl ⟨by rw [hds.out], hS.bel⟩
end Go.Proofs.YtlikinglgegclaaDoor
/- Rows of several cells, one's own. -/
namespace Go.Cour
open Go.RowKit
/-- The slice value v, of rows of s cells each, is one's own. -/
def OwnA (w : World) (e : TypeId) (s : Nat) (v : Value) (rows : List (List Value)) : Prop := w.ownsRow 0 e s v rows.length rows.flatten ∧ ∀ r ∈ rows, r.length = s
theorem OwnA.nil (w : World) (e : TypeId) (s : Nat) : OwnA w e s (.slice none 0 0) [] := ⟨World.ownsRow_nil w 0 e s, fun _ h => by cases h⟩
theorem OwnA.below {w w' : World} {e : TypeId} {s : Nat} {v : Value} {rows : List (List Value)} (h : OwnA w e s v rows) (hb : Below w.heap.size w w') : OwnA w' e s v rows := by
  refine ⟨⟨h.1.1, ?_⟩, h.2⟩
  rcases h.1.2 with h2 | ⟨g, cap, cur, rfl, hg, hh, r⟩
  · exact .inl h2
  · exact .inr ⟨g, cap, cur, rfl, hg, (hb.block g (Array.getElem?_eq_some_iff.1 hh).1).trans hh, r⟩
theorem OwnA.kept {w w' : World} {e : TypeId} {s : Nat} {v : Value} {rows : List (List Value)} (h : OwnA w e s v rows) (hk : ∀ j, v.ownBlock = some j → w'.heap[j]? = w.heap[j]?) : OwnA w' e s v rows := by
  refine ⟨⟨h.1.1, ?_⟩, h.2⟩
  rcases h.1.2 with h2 | ⟨g, cap, cur, rfl, hg, hh, r⟩
  · exact .inl h2
  · exact .inr ⟨g, cap, cur, rfl, hg, (hk g rfl).trans hh, r⟩
theorem OwnA.lt_size {w : World} {e : TypeId} {s : Nat} {v : Value} {rows : List (List Value)} (h : OwnA w e s v rows) (j : Nat) (hj : v.ownBlock = some j) : j < w.heap.size := by
  rcases h.1.2 with ⟨rfl, _⟩ | ⟨g, cap, cur, rfl, hg, hh, r⟩
  · simp [Value.ownBlock] at hj
  · have : g = j := by simpa [Value.ownBlock] using hj
    subst this
    exact (Array.getElem?_eq_some_iff.1 hh).1
theorem flatten_get {s : Nat} : ∀ {rows : List (List Value)}, (∀ r ∈ rows, r.length = s) → ∀ (i j : Nat) (r : List Value), rows[i]? = some r → j < s → rows.flatten[i * s + j]? = r[j]?
  | [], _, i, j, r, h, _ => by simp at h
  | r0 :: rows, hl, 0, j, r, h, hj => by
    simp only [List.getElem?_cons_zero, Option.some.injEq] at h
    subst h
    have := hl r0 (by simp)
    rw [List.flatten_cons, Nat.zero_mul, Nat.zero_add, List.getElem?_append_left (by omega)]
  | r0 :: rows, hl, i + 1, j, r, h, hj => by
    have h0 := hl r0 (by simp)
    have ih := flatten_get (s := s) (rows := rows) (fun r hr => hl r (by simp [hr])) i j r (by simpa using h) hj
    rw [List.flatten_cons, Nat.succ_mul, List.getElem?_append_right (by omega), ← ih]
    congr 1; omega
/-- Where its rows lie. -/
theorem OwnA.parts {w : World} {e : TypeId} {s : Nat} {v : Value} {rows : List (List Value)} (h : OwnA w e s v rows) : ∃ A c, v = .slice A rows.length c ∧ rows.length ≤ c ∧
    ∀ i r, rows[i]? = some r → ∃ g, A = some ⟨g, 0, none⟩ ∧ ∀ j u, r[j]? = some u → w.cell? ⟨g, i * s + j, none⟩ = some u := by
  obtain ⟨⟨h1, h2⟩, h3⟩ := h
  rcases h2 with ⟨rfl, h2⟩ | ⟨g, cap, cur, rfl, hg, hh, hn, hm, hs, ht⟩
  · exact ⟨none, 0, by rw [h2], by omega, fun i r hr => by have := (List.getElem?_eq_some_iff.1 hr).1; omega⟩
  · refine ⟨_, cap, rfl, hn, fun i r hr => ⟨g, rfl, fun j u hu => ?_⟩⟩
    have hl := (List.getElem?_eq_some_iff.1 hr).1
    have hrs := h3 r (List.mem_of_getElem? hr)
    have hj : j < s := by have := (List.getElem?_eq_some_iff.1 hu).1; omega
    have hc : w.cell? ⟨g, i * s + j, none⟩ = cur[i * s + j]? := cell_of_row w g _ cur e (0, 0) hh
    have h4 := flatten_get h3 i j r hr hj
    rw [← ht, List.getElem?_take, if_pos (by
      have : (i + 1) * s ≤ rows.length * s := Nat.mul_le_mul_right _ hl
      rw [Nat.succ_mul] at this; omega)] at h4
    rw [hc, ← Array.getElem?_toList, h4, hu]
section
variable {P : Program} {w : World} {ops : Array Oper} {rest : List Oper} {o : Oper} {a : Act} {Q : Exit → Act → World → Prop}
/-- A slice literal of one value of s cells. -/
theorem literal_agg (hw : Region.wanted o (yielded ops a.tmps) = true) (t e : TypeId) (x : Operand) (ho : o.op = .buildSlice t 1 #[(0, x)]) (cs : List Value) (s : Nat) (hx : (a.eval x).cells = cs.toArray) (hl : cs.length = s)
    (ht : P.underlying t = some (.slice e)) (hsz : (P.info? e).map (·.size) = some s) (hz : ((P.info? e).bind (·.zero)).isSome = true) (hpos : 0 < s) (hsmall : s ≤ 2 ^ 24)
    (h : ∀ (g : Nat) (w' : World), w.heap.size = g → Blk w' g e cs → Below w.heap.size w w' → w'.heap.size = g + 1 → wpList P ops Q rest (a.put o.dst (.slice (some ⟨g, 0, none⟩) 1 1)) w') :
    wpList P ops Q (o :: rest) a w := by
  have h2 := h w.heap.size _ rfl (Blk.new w e cs) ((Below.refl _ _).alloc (Nat.le_refl _) _) (by simp)
  cases hie : P.info? e with
  | none => simp [hie] at hsz
  | some ie =>
    simp only [hie, Option.map_some, Option.some.injEq, Option.bind_some] at hsz hz
    obtain ⟨z, hzz⟩ := Option.isSome_iff_exists.1 hz
    refine wpList_step fun K hK => ?_
    rw [if_pos hw]
    refine wp_buildSlice t e 1 _ ho cs.toArray ie z ht hie hzz (by rw [hsz]; omega) (by rw [hsz]; omega) ?_ (hK _ _ h2)
    rw [hsz]
    obtain ⟨r, hr, hs2, hk⟩ := Great.fill_dense hpos [a.eval x] 0 ((Array.range (1 * s)).map (z.cells[· % z.cells.size]!)) (fun v hv => by rw [List.mem_singleton.1 hv, hx]; simpa using hl) (by simp)
    have he : (#[(0, x)].map fun (i, x) => (i, a.eval x)).toList = (([a.eval x] : List Value).zipIdx 0).map fun x => (x.2, x.1) := by simp
    rw [he, hr]
    congr 1
    apply Array.ext_getElem?
    intro k
    rw [hk k]
    by_cases hlt : k < s
    · rw [if_pos (by simp; omega)]
      have h1 : k / s = 0 := Nat.div_eq_of_lt hlt
      have h3 : k % s = k := Nat.mod_eq_of_lt hlt
      simp [h1, h3, hx]
    · rw [if_neg (by simp; omega)]
      simp [List.getElem?_eq_none (show cs.length ≤ k by omega)]
      omega
/-- One row more. -/
theorem app_agg (hw : Region.wanted o (yielded ops a.tmps) = true) (s x : Operand) (t : TypeId)
    (ho : o.op = .call { callee := .builtin .append, args := #[s, x], argTypes := #[t, t] })
    (e : TypeId) (n bytes : Nat) (ht : P.underlying t = some (.slice e)) (hi : (P.info? e).map (fun i => (i.zero.map (·.cells.size), i.size, i.bytes)) = some (some n, n, bytes)) (hn : 0 < n)
    (v : Value) (rows : List (List Value)) (hs : a.eval s = v) (hown : OwnA w e n v rows)
    (g : Nat) (r : List Value) (hx : a.eval x = .slice (some ⟨g, 0, none⟩) 1 1) (hg : Blk w g e r) (hl : r.length = n) (h1 : ∀ u ∈ r, u.oneCell' = true)
    (hbytes : (rows.length + 1) * bytes ≤ 140737488355328) (h63 : rows.length + 1 ≤ 140737488355328)
    (h : ∀ v' w', OwnA w' e n v' (rows ++ [r]) → w.grownBy w' v.ownBlock → Lies v v' w → wpList P ops Q rest (a.put o.dst v') w') :
    wpList P ops Q (o :: rest) a w := by
  cases hie : P.info? e with
  | none => simp [hie] at hi
  | some i =>
    cases hz : i.zero with
    | none => simp [hie, hz] at hi
    | some z =>
      simp [hie, hz] at hi
      refine app_row hw s x t ho e i z n bytes ht hie hz hi.2.1 hi.2.2 hi.1 hn v rows.length rows.flatten hs hown.1 ⟨g, 0, none⟩ 1 1 r hx (by omega) ?_ h1 (by unfold maxLen; omega) hbytes ?_
      · intro j u' hj
        rw [add_lit, Nat.zero_add, hg.cell]
        exact hj
      · intro v' w' h2 h3 h4
        refine h v' w' ⟨?_, fun q hq => ?_⟩ h3 h4
        · rw [List.length_append, List.flatten_append]
          simpa using h2
        · rcases List.mem_append.1 hq with hq | hq
          · exact hown.2 q hq
          · rw [List.mem_singleton.1 hq]; exact hl
end
end Go.Cour
/- Rows of several cells beside other things: appended to, cut. -/
namespace Go.Cour
open Go.RowKit
def Ent.oa (e : TypeId) (s : Nat) (v : Value) (rows : List (List Value)) : Ent where
  F := fun j => v.ownBlock = some j
  p := fun w => OwnA w e s v rows
  lt := fun h j hj => h.lt_size j hj
  kept := fun h hk => h.kept hk
section
variable {P : Program} {ops : Array Oper} {rest : List Oper} {o : Oper} {a : Act} {w w0 : World} {Q : Exit → Act → World → Prop} {F : Nat → Prop} {L : List Ent}
theorem HS.oa (h : HS F w0 w L) (i : Nat) {e : TypeId} {s : Nat} {v : Value} {rows : List (List Value)} (hi : L[i]? = some (.oa e s v rows)) : OwnA w e s v rows := h.mem.get hi
/-- One row more. -/
theorem hs_appA (hS : HS F w0 w L) (i : Nat) {e : TypeId} {n : Nat} {v : Value} {rows : List (List Value)} (hi : L[i]? = some (.oa e n v rows)) (hw : Region.wanted o (yielded ops a.tmps) = true) (s x : Operand) (t : TypeId)
    (ho : o.op = .call { callee := .builtin .append, args := #[s, x], argTypes := #[t, t] }) (bytes : Nat) (ht : P.underlying t = some (.slice e)) (hf : (P.info? e).map (fun i => (i.zero.map (·.cells.size), i.size, i.bytes)) = some (some n, n, bytes)) (hn : 0 < n)
    (hs : a.eval s = v) (g : Nat) (r : List Value) (hx : a.eval x = .slice (some ⟨g, 0, none⟩) 1 1) (hg : Blk w g e r) (hl : r.length = n) (h1 : ∀ u ∈ r, u.oneCell' = true)
    (hbytes : (rows.length + 1) * bytes ≤ 140737488355328) (h63 : rows.length + 1 ≤ 140737488355328) (d : Option Tmp) (hd : o.dst = d)
    (h : ∀ A' n' c' w', rows.length + 1 = n' → n' ≤ c' → HS F w0 w' (L.set i (.oa e n (.slice A' n' c') (rows ++ [r]))) → wpList P ops Q rest (a.put d (.slice A' n' c')) w') : wpList P ops Q (o :: rest) a w := by
  subst hd
  refine app_agg hw s x t ho e n bytes ht hf hn v rows hs (hS.oa i hi) g r hx hg hl h1 hbytes h63 ?_
  intro v' w' ho' hg' hl'
  have hu : Upd (fun j => v.ownBlock = some j) w w' := Upd.of_grown hg'
  obtain ⟨A', c', rfl, hc, _⟩ := ho'.parts
  refine h A' _ c' w' (by simp) hc ?_
  refine hS.upd1 i hi hu _ ho' (fun k hk => ?_)
  have hk' : (Value.slice A' (rows ++ [r]).length c').ownBlock = some k := hk
  rcases hl' with h2 | h2
  · exact .inl (by rw [h2] at hk'; exact hk')
  · rw [h2] at hk'
    injection hk' with hk'
    exact .inr (Nat.le_of_eq hk')
/-- s[:h]. -/
theorem slice_hiS (hw : Region.wanted o (yielded ops a.tmps) = true) (x z : Operand) (t : TypeId) (ho : o.op = .slice t x none (some z) none) (e : TypeId)
    (hu : P.underlying t = some (.slice e)) (s : Nat) (hsz : (P.info? e).map (·.size) = some s) (g off m c h : Nat) (hx : a.eval x = .slice (some ⟨g, off, none⟩) m c) (hz : a.eval z = .int .i64 (h : Int)) (hhc : h ≤ c) (hpc : 0 < c) (d : Option Tmp) (hd : o.dst = d)
    (hk : wpList P ops Q rest (a.put d (.slice (some ⟨g, off, none⟩) h c)) w) : wpList P ops Q (o :: rest) a w := by
  subst hd
  obtain ⟨i, hi, hs⟩ : ∃ i, P.info? e = some i ∧ i.size = s := by
    cases hie : P.info? e with
    | none => simp [hie] at hsz
    | some i => exact ⟨i, rfl, by simpa [hie] using hsz⟩
  refine wpList_step fun K hK => ?_
  rw [if_pos hw]
  have hs2 : (sizeOf e).run P w = .ok s w := by simp [sizeOf, typeInfo, hi, hs]
  have hne : ¬ c = 0 := by omega
  have hrun : (Instr.slice t (.slice (some ⟨g, off, none⟩) m c) none (some (.int .i64 (h : Int))) none).run P w = .ok (.slice (some ⟨g, off, none⟩) h c) w := by
    simp [Instr.slice, run_underlying hu, Instr.sliceBounds, run_sliceBound, hs2, hhc, hne, add_lit]
  have hrun2 : (Instr.sliceAt t (.slice (some ⟨g, off, none⟩) m c) none (some (.int .i64 (h : Int))) none).run P w = .ok (.slice (some ⟨g, off, none⟩) h c) w := by
    rw [← hrun]; simp [Instr.sliceAt, run_underlying hu]
  unfold Oper.wp execOp
  simp only [ho, hx, hz, Option.map_some, Option.map_none]
  simp [hrun2]
  exact hK _ _ hk
/-- s[p:]. -/
theorem slice_loS (hw : Region.wanted o (yielded ops a.tmps) = true) (x y : Operand) (t : TypeId) (ho : o.op = .slice t x (some y) none none) (e : TypeId)
    (hu : P.underlying t = some (.slice e)) (s : Nat) (hsz : (P.info? e).map (·.size) = some s) (g off m c p n : Nat) (hx : a.eval x = .slice (some ⟨g, off, none⟩) m c) (hy : a.eval y = .int .i64 (p : Int)) (hpm : p ≤ m) (hpc : p < c) (hn : m - p = n) (d : Option Tmp) (hd : o.dst = d)
    (hk : wpList P ops Q rest (a.put d (.slice (some ⟨g, off + p * s, none⟩) n (c - p))) w) : wpList P ops Q (o :: rest) a w := by
  subst hd hn
  obtain ⟨i, hi, hs⟩ : ∃ i, P.info? e = some i ∧ i.size = s := by
    cases hie : P.info? e with
    | none => simp [hie] at hsz
    | some i => exact ⟨i, rfl, by simpa [hie] using hsz⟩
  refine wpList_step fun K hK => ?_
  rw [if_pos hw]
  have hs2 : (sizeOf e).run P w = .ok s w := by simp [sizeOf, typeInfo, hi, hs]
  have hne : ¬ c = p := by omega
  have hrun : (Instr.slice t (.slice (some ⟨g, off, none⟩) m c) (some (.int .i64 (p : Int))) none none).run P w = .ok (.slice (some ⟨g, off + p * s, none⟩) (m - p) (c - p)) w := by
    simp [Instr.slice, run_underlying hu, Instr.sliceBounds, run_sliceBound, hs2, hpm, hne, add_lit]
  have hrun2 : (Instr.sliceAt t (.slice (some ⟨g, off, none⟩) m c) (some (.int .i64 (p : Int))) none none).run P w = .ok (.slice (some ⟨g, off + p * s, none⟩) (m - p) (c - p)) w := by
    rw [← hrun]; simp [Instr.sliceAt, run_underlying hu]
  unfold Oper.wp execOp
  simp only [ho, hx, hy, Option.map_some, Option.map_none]
  simp [hrun2]
  exact hK _ _ hk
end
end Go.Cour
/- The reference's tree: Leaf, Node, Split, Root. -/
namespace Go.Proofs.YtlikinglgegclaaDoor
open Go.RowKit Go.Cour
def leafOf (xs : List Int) : List Int := shaOf (0 :: xs)
def nodeOf (l r : List Int) : List Int := shaOf (1 :: (l ++ r))
theorem leafOf_length (xs : List Int) : (leafOf xs).length = 32 := shaOf_length _
theorem nodeOf_length (l r : List Int) : (nodeOf l r).length = 32 := shaOf_length _
theorem leafOf_B8 (xs : List Int) : ∀ x ∈ leafOf xs, B8 x := shaOf_B8 _
theorem nodeOf_B8 (l r : List Int) : ∀ x ∈ nodeOf l r, B8 x := shaOf_B8 _
theorem B8_cons {y : Int} {xs : List Int} (hy : B8 y) (h : ∀ x ∈ xs, B8 x) : ∀ x ∈ y :: xs, B8 x := fun x hx => by
  rcases List.mem_cons.1 hx with rfl | hx
  · exact hy
  · exact h x hx
theorem B8_append {xs ys : List Int} (h : ∀ x ∈ xs, B8 x) (h' : ∀ x ∈ ys, B8 x) : ∀ x ∈ xs ++ ys, B8 x := fun x hx => by
  rcases List.mem_append.1 hx with hx | hx
  · exact h x hx
  · exact h' x hx
theorem one_B8 : B8 1 := ⟨by decide, by decide⟩
/-- A new digest's block. -/
def ZH (g : Nat) : Ent := .blk g 30 (ints .u8 (List.replicate 32 0))
/-- A block read as numbers. -/
theorem Blk.rdA {w : World} {g : Nat} {t : TypeId} {k : IntKind} {xs : List Int} (h : Blk w g t (ints k xs)) : Rd w (some ⟨g, 0, none⟩) k xs := .inr ⟨g, 0, rfl, fun i hi => by rw [Nat.zero_add]; exact Go.Cour.Blk.cellI h i hi⟩
set_option maxHeartbeats 1000000 in
set_option maxRecDepth 100000 in
theorem leaf16_calls (xs : List Int) (A : Option Addr) (m c : Nat) (w : World) (hm : xs.length = m) (hr : Rd w A .u8 xs) (hx : ∀ x ∈ xs, B8 x) (hsz : m ≤ 900000) :
    Calls Tryd.prog 15 #[.slice A m c] w fun e w' => e = .returned (.agg (ints .u8 (leafOf xs)).toArray) ∧ Below w.heap.size w w' := by
  have HM := hid hm
  have HR := hid hr
  have HX := hid hx
  have hS := HS.start NoF w
  have hsz2 : m ≤ 900000 := hsz
  have HLL : Hd ((leafOf xs).length = 32) := hid (leafOf_length xs)
  obtain ⟨ds, hds⟩ : ∃ ds, Hd (leafOf xs = ds) := ⟨_, hid rfl⟩
  rw [hds.out] at HLL
  clear hm hr hx
  go_enter Tryd.func15, Tryd.ntmps15
  go_wp2_with (first
    | (refine alloc_blk rfl 30 rfl _ rfl (ints .u8 (List.replicate 32 0)) zeroHashS ?_; intro g2 w2 hga hba hBa hsa; replace hS := hS.pushBlk hBa hba hga; clear hga hba hBa hsa)
    | (refine hs_one hS rfl 24 5 _ rfl undBytesS sizeU8S zeroU8S (.int .u8 0) rfl rfl _ rfl ?_; clear hS; intro go wo hgo hBo hS; clear hgo hBo)
    | (refine hs_append hS 0 rfl rfl _ _ 24 rfl 1 undBytesS infoU8S zeroU8S rfl A m c rfl (ints .u8 xs) (by rw [ints_length]; exact HM.out) (news_of_rd (hS.oldRd HR.out (fun _ _ _ h => h))) (ints_one' _ _) (by simp; omega) (by simp; omega) _ rfl ?_
       clear hS; intro A3 n3 c3 w5 hn3 hc3 hA3 hS; have HN3 := hid hn3; clear hn3
       replace hS : HS NoF w w5 [.os 5 (.slice A3 n3 c3) (ints .u8 (0 :: xs)), .blk g2 30 (ints .u8 (List.replicate 32 0))] := hS)
    | (go_at_call 13; refine (sum1_calls (0 :: xs) A3 n3 c3 _ (by rw [← HN3.out]; simp) ((hS.os 0 rfl).rd rfl) (B8_cons zero_B8 HX.out) (by rw [← HN3.out]; simp [HM.out]; omega)).mono ?_; rintro e w6 ⟨rfl, hB6⟩; replace hS := hS.below hB6; rw [show shaOf (0 :: xs) = ds from hds.out])
    | (refine hs_storeW hS 1 rfl rfl 30 _ _ rfl rfl (ints .u8 ds) rfl (ints_one' _ _) _ infoHashS (by simp [HLL.out]) (by simp) _ rfl ?_; clear hS; intro w9 hS)
    | fail)
  refine bodyPost_ret (results_blk rfl _ _ g2 _ _ 32 _ rfl (hS.blk 1 rfl) arrHashS (by simp [HLL.out]) infoHashS) rfl ⟨by rw [hds.out], hS.bel⟩
set_option maxHeartbeats 1000000 in
set_option maxRecDepth 100000 in
theorem node16_calls (l r : List Int) (w : World) (hl : l.length = 32) (hr : r.length = 32) (bl : ∀ x ∈ l, B8 x) (br : ∀ x ∈ r, B8 x) :
    Calls Tryd.prog 44 #[.agg (ints .u8 l).toArray, .agg (ints .u8 r).toArray] w fun e w' => e = .returned (.agg (ints .u8 (nodeOf l r)).toArray) ∧ Below w.heap.size w w' := by
  have HL := hid hl
  have HR := hid hr
  have BL := hid bl
  have BR := hid br
  have hS := HS.start NoF w
  have HLL : Hd ((nodeOf l r).length = 32) := hid (nodeOf_length l r)
  obtain ⟨ds, hds⟩ : ∃ ds, Hd (nodeOf l r = ds) := ⟨_, hid rfl⟩
  rw [hds.out] at HLL
  clear hl hr bl br
  go_enter Tryd.func44, Tryd.ntmps44
  go_wp2_with (first
    | (refine box_blk rfl 30 _ rfl _ rfl (ints .u8 l) rfl ?_; intro g2 w2 hga hba hBa hsa; replace hS := hS.pushBlk hBa hba hga; clear hga hba hBa hsa)
    | (refine box_blk rfl 30 _ rfl _ rfl (ints .u8 r) rfl ?_; intro g3 w3 hga hba hBa hsa; replace hS := hS.pushBlk hBa hba hga; clear hga hba hBa hsa)
    | (refine alloc_blk rfl 30 rfl _ rfl (ints .u8 (List.replicate 32 0)) zeroHashS ?_; intro g4 w4 hga hba hBa hsa; replace hS := hS.pushBlk hBa hba hga; clear hga hba hBa hsa)
    | fail)
  try go_wp2_with fail
  refine wp_region_S (F := NoF) (w0 := w) (L0 := [ZH g4, .blk g3 30 (ints .u8 r), .blk g2 30 (ints .u8 l)]) [] [0, 2, 4, 5, 6]
    (fun iK u E => match iK with
      | _ => False)
    ([]) (by kernel_rfl) (by kernel_rfl) hS ?_
  show wpS _ _ _ _ _ _ _ _ _ _ [0, 1, 2, 3, 4, 5, 6] _
  refine wpS_hard (i := 0) rfl rfl ?_ -- Op.buildSlice 24 1 #[(0, const (1:u8))]
  intro w0 hT
  simp only [List.getElem_toArray, List.getElem_cons_zero, List.getElem_cons_succ]
  go_wp2_with (first
    | (refine hs_one hT rfl 24 5 _ rfl undBytesS sizeU8S zeroU8S (.int .u8 1) rfl rfl _ rfl ?_; clear hT; intro go wo hgo hBo hT)
    | fail)
  refine HardP.mk' ([.os 5 (.slice (some ⟨go, 0, none⟩) 1 1) (ints .u8 [1])]) rfl ?_ ?_
  · exact hT
  clear hT
  clear hgo hBo
  apply wpS_read (i := 1) rfl rfl ⟨_, hS⟩ rfl -- Op.slice 29 t2 none none none
  · intro w' hT'
    simp only [List.getElem_toArray, List.getElem_cons_zero, List.getElem_cons_succ]
    go_wp2_with fail
    first | exact ⟨rfl, rfl, rfl⟩ | rfl
  refine wpS_hard (i := 2) rfl rfl ?_ -- Op.call { builtin append, args := #[t5, t6], argTypes := #[24, 24] }
  intro w2 hT
  replace hT : HS NoF w w2 [.os 5 (.slice (some ⟨go, 0, none⟩) 1 1) (ints .u8 [1]), ZH g4, .blk g3 30 (ints .u8 r), .blk g2 30 (ints .u8 l)] := hT
  simp only [List.getElem_toArray, List.getElem_cons_zero, List.getElem_cons_succ]
  go_wp2_with (first
    | (refine hs_append hT 0 rfl rfl _ _ 24 rfl 1 undBytesS infoU8S zeroU8S rfl (some ⟨g2, 0, none⟩) 32 32 rfl (ints .u8 l) (by rw [ints_length]; exact HL.out) (news_of_rd (Blk.rdA (hT.blk 3 rfl))) (ints_one' _ _) (by rw [ints_length]; simp [HL.out]) (by rw [ints_length]; simp [HL.out]) _ rfl ?_; clear hT; intro A5 n5 c5 wz hn hc5 hA5 hT; have HN5 := hid hn; clear hn)
    | fail)
  refine HardP.mk' ([.os 5 (.slice A5 n5 c5) (ints .u8 (1 :: l))]) rfl ?_ ?_
  · exact hT
  clear hT
  apply wpS_read (i := 3) rfl rfl ⟨_, hS⟩ rfl -- Op.slice 29 t3 none none none
  · intro w' hT'
    simp only [List.getElem_toArray, List.getElem_cons_zero, List.getElem_cons_succ]
    go_wp2_with fail
    first | exact ⟨rfl, rfl, rfl⟩ | rfl
  refine wpS_hard (i := 4) rfl rfl ?_ -- Op.call { builtin append, args := #[t7, t8], argTypes := #[24, 24] }
  intro w4 hT
  replace hT : HS NoF w w4 [.os 5 (.slice A5 n5 c5) (ints .u8 (1 :: l)), ZH g4, .blk g3 30 (ints .u8 r), .blk g2 30 (ints .u8 l)] := hT
  simp only [List.getElem_toArray, List.getElem_cons_zero, List.getElem_cons_succ]
  go_wp2_with (first
    | (have HQ5 : Hd (n5 = 33) := hid (by rw [← HN5.out]; simp [HL.out]); refine hs_append hT 0 rfl rfl _ _ 24 rfl 1 undBytesS infoU8S zeroU8S rfl (some ⟨g3, 0, none⟩) 32 32 rfl (ints .u8 r) (by rw [ints_length]; exact HR.out) (news_of_rd (Blk.rdA (hT.blk 2 rfl))) (ints_one' _ _) (by rw [ints_length]; simp [HL.out]) (by rw [ints_length]; simp [HL.out]) _ rfl ?_; clear hT; intro A7 n7 c7 wz hn hc7 hA7 hT; have HN7 := hid hn; clear hn; rw [← ints_append] at hT)
    | fail)
  refine HardP.mk' ([.os 5 (.slice A7 n7 c7) (ints .u8 (1 :: (l ++ r)))]) rfl ?_ ?_
  · exact hT
  clear hT
  refine wpS_hard (i := 5) rfl rfl ?_ -- Op.call { value (Operand.func 23), args := #[t9], argTypes := #[24] 
  intro w5 hT
  replace hT : HS NoF w w5 [.os 5 (.slice A7 n7 c7) (ints .u8 (1 :: (l ++ r))), ZH g4, .blk g3 30 (ints .u8 r), .blk g2 30 (ints .u8 l)] := hT
  simp only [List.getElem_toArray, List.getElem_cons_zero, List.getElem_cons_succ]
  go_wp2_with (first
    | (go_at_call 13; refine (sum1_calls (1 :: (l ++ r)) A7 n7 c7 _ (by rw [← HN7.out]; simp; omega) ((hT.os 0 rfl).rd rfl) (B8_cons one_B8 (B8_append BL.out BR.out)) (by rw [← HN7.out]; simp [HL.out, HR.out])).mono ?_; rintro e wq ⟨rfl, hB6⟩; replace hT := hT.below hB6; rw [show shaOf (1 :: (l ++ r)) = ds from hds.out])
    | fail)
  refine HardP.mk' ([.os 5 (.slice A7 n7 c7) (ints .u8 (1 :: (l ++ r)))]) rfl ?_ ?_
  · exact hT
  clear hT
  refine wpS_tot (i := 6) rfl rfl (by kernel_rfl) ?_ -- Op.store 29 t4 t10
  intro w6 hT
  replace hT : HS NoF w w6 [.os 5 (.slice A7 n7 c7) (ints .u8 (1 :: (l ++ r))), ZH g4, .blk g3 30 (ints .u8 r), .blk g2 30 (ints .u8 l)] := hT
  simp only [List.getElem_toArray, List.getElem_cons_zero, List.getElem_cons_succ]
  go_wp2_with (first
    | (refine hs_storeW hT 1 rfl rfl 30 _ _ rfl rfl (ints .u8 ds) rfl (ints_one' _ _) _ infoHashS (by simp [HLL.out]) (by simp) _ rfl ?_; clear hT; intro w9 hT)
    | fail)
  refine TotP.mk' ([.os 5 (.slice A7 n7 c7) (ints .u8 (1 :: (l ++ r))), .blk g4 30 (ints .u8 ds), .blk g3 30 (ints .u8 r), .blk g2 30 (ints .u8 l)]) rfl ?_ ?_
  · exact hT
  clear hT
  refine wpS_end ?_
  intro wz hT
  try dsimp only
  clear hS
  have hS : HS NoF w wz [.os 5 (.slice A7 n7 c7) (ints .u8 (1 :: (l ++ r))), .blk g4 30 (ints .u8 ds), .blk g3 30 (ints .u8 r), .blk g2 30 (ints .u8 l)] := hT
  clear hT
  go_wp2_with fail
  refine bodyPost_ret (results_blk rfl _ _ g4 _ _ 32 _ rfl (hS.blk 1 rfl) arrHashS (by simp [HLL.out]) infoHashS) rfl ⟨by rw [hds.out], hS.bel⟩
/-- The greatest power of two below n, by doubling. -/
def splitF : Nat → Nat → Nat → Nat
  | 0, k, _ => k
  | f + 1, k, n => if k < n - k then splitF f (2 * k) n else k
def splitOf (n : Nat) : Nat := if n < 2 then 0 else splitF n 1 n
theorem splitF_pos : ∀ (f k n : Nat), 0 < k → k < n → 0 < splitF f k n ∧ splitF f k n < n
  | 0, k, n, h, h' => ⟨h, h'⟩
  | f + 1, k, n, h, h' => by
    unfold splitF
    split
    · exact splitF_pos f (2 * k) n (by omega) (by omega)
    · exact ⟨h, h'⟩
theorem splitOf_pos {n : Nat} (h : 2 ≤ n) : 0 < splitOf n ∧ splitOf n < n := by
  unfold splitOf
  rw [if_neg (by omega)]
  exact splitF_pos n 1 n (by omega) (by omega)
set_option maxHeartbeats 1000000 in
set_option maxRecDepth 100000 in
theorem split16_calls (n : Nat) (w : World) (h2 : 2 ≤ n) (hn : n ≤ 1000000) :
    Calls Tryd.prog 43 #[.int .i64 (n : Int)] w fun e w' => e = .returned (.int .i64 (splitOf n : Nat)) ∧ w' = w := by
  have hS : Hd (splitF n 1 n = splitOf n) := hid (by unfold splitOf; rw [if_neg (by omega)])
  have hlt : ¬ (n : Int) < 2 := by omega
  go_enter Tryd.func43, Tryd.ntmps43
  go_wp2_with fail
  go_loopg [3] (n + 1) (fun kq v3 wr => ∃ k : Nat, 0 < k ∧ k < n ∧ v3 = .int .i64 k ∧ Hd (∃ q, kq = q + 1 ∧ n ≤ q + k ∧ splitF q k n = splitOf n) ∧ wr = w)
  case atStart => exact ⟨1, by omega, by omega, rfl, hid ⟨n, rfl, by omega, hS.out⟩, rfl⟩
  case round =>
    obtain ⟨k, hk, hkn, rfl, hq, rfl⟩ := hrel
    by_cases hd : k < n - k
    · have hd2 : (k : Int) < (n : Int) - k := by omega
      go_wp2_with fail
      go_roundg (gk - 1)
      case measure => obtain ⟨q, h1, h2, h3⟩ := hq.out; omega
      case rel =>
        obtain ⟨q, h1, h2, h3⟩ := hq.out
        obtain ⟨p, rfl⟩ : ∃ p, q = p + 1 := ⟨q - 1, by omega⟩
        refine ⟨2 * k, by omega, by omega, by go_num, hid ⟨p, by omega, by omega, ?_⟩, rfl⟩
        rw [← h3]
        conv => rhs; unfold splitF
        rw [if_pos hd]
    · have hd2 : ¬ (k : Int) < (n : Int) - k := by omega
      have hk2 : Hd (splitOf n = k) := hid (by
        obtain ⟨q, h1, h2, h3⟩ := hq.out
        rw [← h3]
        cases q with
        | zero => rfl
        | succ p => unfold splitF; rw [if_neg hd])
      go_wp2_with fail
      go_ret
      exact ⟨by rw [hk2.out]; rfl, rfl⟩
/-- Digests, one behind the other in memory. -/
def HRd (w : World) (A : Option Addr) (hss : List (List Int)) : Prop := hss = [] ∨ ∃ g o, A = some ⟨g, o, none⟩ ∧ ∀ i h j u, hss[i]? = some h → (ints .u8 h)[j]? = some u → w.cell? ⟨g, o + i * 32 + j, none⟩ = some u
theorem HRd.below {w w' : World} {A : Option Addr} {hss : List (List Int)} (h : HRd w A hss) (hb : Below w.heap.size w w') : HRd w' A hss := by
  rcases h with h | ⟨g, o, h1, h2⟩
  · exact .inl h
  · exact .inr ⟨g, o, h1, fun i x j u hi hj => (hb.cell (lt_of_cell (h2 i x j u hi hj))).trans (h2 i x j u hi hj)⟩
theorem HRd.take {w : World} {A : Option Addr} {hss : List (List Int)} (h : HRd w A hss) (n : Nat) : HRd w A (hss.take n) := by
  rcases h with h | ⟨g, o, h1, h2⟩
  · exact .inl (by rw [h]; simp)
  · refine .inr ⟨g, o, h1, fun i x j u hi hj => h2 i x j u ?_ hj⟩
    rw [List.getElem?_take] at hi
    split at hi
    · exact hi
    · cases hi
theorem HRd.drop {w : World} {g o : Nat} {hss : List (List Int)} (h : HRd w (some ⟨g, o, none⟩) hss) (n : Nat) : HRd w (some ⟨g, o + n * 32, none⟩) (hss.drop n) := by
  rcases h with h | ⟨g', o', h1, h2⟩
  · exact .inl (by rw [h]; simp)
  · injection h1 with h1; injection h1 with h1 h3; subst h1 h3
    refine .inr ⟨g, o + n * 32, rfl, fun i x j u hi hj => ?_⟩
    rw [List.getElem?_drop] at hi
    have := h2 (n + i) x j u hi hj
    rw [show o + n * 32 + i * 32 + j = o + (n + i) * 32 + j by rw [Nat.add_mul]; omega]
    exact this
theorem HRd.oldS {w0 w : World} {L : List Ent} (hS : HS NoF w0 w L) {A : Option Addr} {hss : List (List Int)} (h : HRd w0 A hss) : HRd w A hss := by
  rcases h with h | ⟨g, o, h1, h2⟩
  · exact .inl h
  · exact .inr ⟨g, o, h1, fun i x j u hi hj => hS.oldCell (h2 i x j u hi hj) (fun h => h)⟩
theorem undLHashT : Tryd.prog.underlying 40 = some (.slice 30) := by kernel_rfl
/-- The root of a tree over digests. -/
def rootF : Nat → List (List Int) → List Int
  | 0, _ => shaOf []
  | f + 1, l => if l.length = 0 then shaOf [] else if l.length = 1 then l.headD [] else nodeOf (rootF f (l.take (splitOf l.length))) (rootF f (l.drop (splitOf l.length)))
def rootOf (l : List (List Int)) : List Int := rootF l.length l
theorem rootF_eq : ∀ (f g : Nat) (l : List (List Int)), l.length ≤ f → l.length ≤ g → rootF f l = rootF g l
  | 0, 0, _, _, _ => rfl
  | 0, g + 1, l, h, _ => by unfold rootF; rw [if_pos (by omega)]
  | f + 1, 0, l, _, h => by unfold rootF; rw [if_pos (by omega)]
  | f + 1, g + 1, l, h, h' => by
    unfold rootF
    split
    · rfl
    · split
      · rfl
      · have := splitOf_pos (n := l.length) (by omega)
        rw [rootF_eq f g _ (by rw [List.length_take]; omega) (by rw [List.length_take]; omega), rootF_eq f g _ (by rw [List.length_drop]; omega) (by rw [List.length_drop]; omega)]
def H32 (l : List (List Int)) : Prop := ∀ h ∈ l, h.length = 32 ∧ ∀ x ∈ h, B8 x
theorem H32.take {l : List (List Int)} (h : H32 l) (n : Nat) : H32 (l.take n) := fun x hx => h x (List.mem_of_mem_take hx)
theorem H32.drop {l : List (List Int)} (h : H32 l) (n : Nat) : H32 (l.drop n) := fun x hx => h x (List.mem_of_mem_drop hx)
theorem rootF_H32 : ∀ (f : Nat) (l : List (List Int)), H32 l → (rootF f l).length = 32 ∧ ∀ x ∈ rootF f l, B8 x
  | 0, _, _ => ⟨shaOf_length _, shaOf_B8 _⟩
  | f + 1, l, h => by
    unfold rootF
    split
    · exact ⟨shaOf_length _, shaOf_B8 _⟩
    · split
      · cases l with
        | nil => simp at *
        | cons x l => exact h x (by simp)
      · exact ⟨nodeOf_length _ _, nodeOf_B8 _ _⟩
set_option maxHeartbeats 1000000 in
set_option maxRecDepth 100000 in
theorem root16_calls : ∀ (f : Nat) (hss : List (List Int)) (A : Option Addr) (n c : Nat) (w : World) (_ : hss.length = n) (_ : n ≤ f) (_ : HRd w A hss) (_ : H32 hss) (_ : n ≤ c) (_ : n ≤ 100000),
    Calls Tryd.prog 18 #[.slice A n c] w fun e w' => e = .returned (.agg (ints .u8 (rootF f hss)).toArray) ∧ Below w.heap.size w w' := by
  intro f
  induction f with
  | zero =>
    intro hss A n c w hl hf hr h32 hc hn
    obtain rfl : n = 0 := by omega
    have hS := HS.start NoF w
    clear hl hf hr h32 hc hn
    have HSL : Hd ((shaOf []).length = 32) := hid (shaOf_length [])
    obtain ⟨ds, hds⟩ : ∃ ds, Hd (shaOf [] = ds) := ⟨_, hid rfl⟩
    rw [hds.out] at HSL
    go_enter Tryd.func18, Tryd.ntmps18
    go_wp2_with (first
      | (refine alloc_blk rfl 30 rfl _ rfl (ints .u8 (List.replicate 32 0)) zeroHashS ?_; intro g2 w2 hga hba hBa hsa; replace hS := hS.pushBlk hBa hba hga; clear hga hba hBa hsa)
      | (go_at_call 13; refine (sum1_calls [] none 0 0 _ rfl (.inl rfl) (fun _ h => by cases h) (by omega)).mono ?_; rintro e w6 ⟨rfl, hB6⟩; replace hS := hS.below hB6; rw [hds.out])
      | (refine hs_storeW hS 0 rfl rfl 30 _ _ rfl rfl (ints .u8 ds) rfl (ints_one' _ _) _ infoHashS (by simp [HSL.out]) (by simp) _ rfl ?_; clear hS; intro w9 hS)
      | fail)
    refine bodyPost_ret (results_blk rfl _ _ g2 _ _ 32 _ rfl (hS.blk 0 rfl) arrHashS (by simp [HSL.out]) infoHashS) rfl ⟨by unfold rootF; rw [hds.out], hS.bel⟩
  | succ f ih =>
    intro hss A n c w hl hf hr h32 hc hn
    by_cases h0 : n = 0
    · subst h0
      have hS := HS.start NoF w
      have hR : Hd (rootF (f + 1) hss = shaOf []) := hid (by unfold rootF; rw [if_pos hl])
      clear hl hf hr h32 hc hn
      have HSL : Hd ((shaOf []).length = 32) := hid (shaOf_length [])
      obtain ⟨ds, hds⟩ : ∃ ds, Hd (shaOf [] = ds) := ⟨_, hid rfl⟩
      rw [hds.out] at HSL hR
      rw [hR.out]
      go_enter Tryd.func18, Tryd.ntmps18
      go_wp2_with (first
        | (refine alloc_blk rfl 30 rfl _ rfl (ints .u8 (List.replicate 32 0)) zeroHashS ?_; intro g2 w2 hga hba hBa hsa; replace hS := hS.pushBlk hBa hba hga; clear hga hba hBa hsa)
        | (go_at_call 13; refine (sum1_calls [] none 0 0 _ rfl (.inl rfl) (fun _ h => by cases h) (by omega)).mono ?_; rintro e w6 ⟨rfl, hB6⟩; replace hS := hS.below hB6; rw [hds.out])
        | (refine hs_storeW hS 0 rfl rfl 30 _ _ rfl rfl (ints .u8 ds) rfl (ints_one' _ _) _ infoHashS (by simp [HSL.out]) (by simp) _ rfl ?_; clear hS; intro w9 hS)
        | fail)
      refine bodyPost_ret (results_blk rfl _ _ g2 _ _ 32 _ rfl (hS.blk 0 rfl) arrHashS (by simp [HSL.out]) infoHashS) rfl ⟨rfl, hS.bel⟩
    · by_cases h1 : n = 1
      · subst h1
        have hS := HS.start NoF w
        obtain ⟨x, rfl⟩ := List.length_eq_one_iff.1 hl
        have HXL : Hd (x.length = 32) := hid (h32 x (by simp)).1
        have hR : Hd (rootF (f + 1) [x] = x) := hid rfl
        rw [hR.out]
        obtain ⟨g, o, rfl, hcell⟩ : ∃ g o, A = some ⟨g, o, none⟩ ∧ ∀ j v, (ints .u8 x)[j]? = some v → w.cell? ⟨g, o + j, none⟩ = some v := by
          rcases hr with h | ⟨g, o, h1, h2⟩
          · cases h
          · exact ⟨g, o, h1, fun j v hj => by have := h2 0 x j v rfl hj; rwa [Nat.zero_mul, Nat.add_zero] at this⟩
        have HC := hid hcell
        clear hl hf hr h32 hn h0 hcell hR
        go_enter Tryd.func18, Tryd.ntmps18
        go_wp2_with (first
          | (refine alloc_blk rfl 30 rfl _ rfl (ints .u8 (List.replicate 32 0)) zeroHashS ?_; intro g2 w2 hga hba hBa hsa; replace hS := hS.pushBlk hBa hba hga; clear hga hba hBa hsa)
          | (refine load_in rfl 30 _ rfl g o rfl (ints .u8 x) (fun j v hj => hS.oldCell (HC.out j v hj) (fun h => h)) 32 5 arrHashS (by simp [HXL.out]) infoHashS ?_)
          | (refine hs_storeW hS 0 rfl rfl 30 _ _ rfl rfl (ints .u8 x) rfl (ints_one' _ _) _ infoHashS (by simp [HXL.out]) (by simp) _ rfl ?_; clear hS; intro w9 hS)
          | fail)
        refine bodyPost_ret (results_blk rfl _ _ g2 _ _ 32 _ rfl (hS.blk 0 rfl) arrHashS (by simp [HXL.out]) infoHashS) rfl ⟨rfl, hS.bel⟩
      · have hS := HS.start NoF w
        have hp := splitOf_pos (n := n) (by omega)
        have hR : Hd (rootF (f + 1) hss = nodeOf (rootF f (hss.take (splitOf n))) (rootF f (hss.drop (splitOf n)))) := hid (by
          conv => lhs; unfold rootF
          rw [hl, if_neg h0, if_neg h1])
        obtain ⟨g, o, rfl⟩ : ∃ g o, A = some ⟨g, o, none⟩ := by
          rcases hr with h | ⟨g, o, h1, _⟩
          · subst h; simp at hl; omega
          · exact ⟨g, o, h1⟩
        have HS1 := hid (rootF_H32 f _ (h32.take (splitOf n)))
        have HS2 := hid (rootF_H32 f _ (h32.drop (splitOf n)))
        have hsp := split16_calls n
        obtain ⟨k, hk⟩ : ∃ k, splitOf n = k := ⟨_, rfl⟩
        rw [hk] at hR HS1 HS2 hp hsp
        have HR1 := hid (hr.take k)
        have HR2 := hid (hr.drop k)
        have H1 := hid (h32.take k)
        have H2 := hid (h32.drop k)
        have HL1 : Hd ((hss.take k).length = k) := hid (by rw [List.length_take]; omega)
        have HL2 : Hd ((hss.drop k).length = n - k) := hid (by rw [List.length_drop]; omega)
        rw [hR.out]
        generalize hss.take k = ls at *
        generalize hss.drop k = rs at *
        obtain ⟨X, hX⟩ : ∃ X, Hd (rootF f ls = X) := ⟨_, hid rfl⟩
        obtain ⟨Y, hY⟩ : ∃ Y, Hd (rootF f rs = Y) := ⟨_, hid rfl⟩
        rw [hX.out] at HS1
        rw [hY.out] at HS2
        rw [hX.out, hY.out]
        have HDL : Hd ((nodeOf X Y).length = 32) := hid (nodeOf_length X Y)
        obtain ⟨ds, hds⟩ : ∃ ds, Hd (nodeOf X Y = ds) := ⟨_, hid rfl⟩
        rw [hds.out] at HDL
        obtain ⟨d, hd⟩ : ∃ d, n - k = d := ⟨_, rfl⟩
        rw [hd] at HL2
        have HF := hid hf
        have HP := hid hp
        have HD := hid hd
        have HI := hid ih
        clear hl hr h32 hR hk hf ih hp hd
        have hn0 : ¬ (n : Int) = 0 := by omega
        have hn1 : ¬ (n : Int) = 1 := by omega
        have hn2 : 2 ≤ n := by omega
        go_enter Tryd.func18, Tryd.ntmps18
        go_wp2_with (first
          | (refine alloc_blk rfl 30 rfl _ rfl (ints .u8 (List.replicate 32 0)) zeroHashS ?_; intro g2 w2 hga hba hBa hsa; replace hS := hS.pushBlk hBa hba hga; clear hga hba hBa hsa)
          | (go_at_call 43; refine (hsp _ (by omega) (by omega)).mono ?_; rintro e w6 ⟨rfl, rfl⟩)
          | fail)
        try go_wp2_with fail
        refine wp_region_S (F := NoF) (w0 := w) (L0 := [ZH g2]) [3, 7, 8] [9]
          (fun iK u E => match iK with
            | 3 => u = .agg (ints .u8 X).toArray ∧ E = []
            | 7 => u = .agg (ints .u8 Y).toArray ∧ E = []
            | 8 => u = .agg (ints .u8 ds).toArray ∧ E = []
            | _ => False)
          ([]) (by kernel_rfl) (by kernel_rfl) hS ?_
        show wpS _ _ _ _ _ _ _ _ _ _ [0, 1, 2, 3, 4, 5, 6, 7, 8, 9] _
        apply wpS_read (i := 0) rfl rfl ⟨_, hS⟩ rfl -- Op.move t0
        · intro w' hT'
          simp only [List.getElem_toArray, List.getElem_cons_zero, List.getElem_cons_succ]
          go_wp2_with fail
          first | exact ⟨rfl, rfl, rfl⟩ | rfl
        apply wpS_read (i := 1) rfl rfl ⟨_, hS⟩ rfl -- Op.move t3
        · intro w' hT'
          simp only [List.getElem_toArray, List.getElem_cons_zero, List.getElem_cons_succ]
          go_wp2_with fail
          first | exact ⟨rfl, rfl, rfl⟩ | rfl
        apply wpS_read (i := 2) rfl rfl ⟨_, hS⟩ rfl -- Op.slice 65 t17 none (some t18) none
        · intro w' hT'
          simp only [List.getElem_toArray, List.getElem_cons_zero, List.getElem_cons_succ]
          go_wp2_with (first
            | (refine slice_hiS rfl _ _ 40 rfl 30 undLHashT 32 infoHashS g o n c k rfl rfl (by have := HP.out; omega) (by omega) _ rfl ?_)
            | (refine slice_loS rfl _ _ 40 rfl 30 undLHashT 32 infoHashS g o n c k d rfl rfl (by have := HP.out; omega) (by have := HP.out; omega) HD.out _ rfl ?_)
            | fail)
          first | exact ⟨rfl, rfl, rfl⟩ | rfl
        refine wpS_soft (i := 3) rfl rfl rfl (Nat.le_of_ble_eq_true rfl) ?_ ?_ -- Op.call { value (Operand.func 22), args := #[t19], argTypes := #[65]
        · intro w' hT
          simp only [List.getElem_toArray, List.getElem_cons_zero, List.getElem_cons_succ]
          go_wp2_with (first
            | (go_at_call 18; refine (HI.out ls (some ⟨g, o, none⟩) k c _ HL1.out (by have := HF.out; have := HP.out; omega) (HRd.oldS hT HR1.out) H1.out (by have := HP.out; omega) (by have := HP.out; omega)).mono ?_; rintro e w6 ⟨rfl, hB6⟩; rw [hX.out])
            | fail)
          exact SoftP.mk' (.agg (ints .u8 X).toArray) ([]) rfl (⟨rfl, rfl⟩) (hT.below hB6) (hB6) (fun _ h => by cases h)
        intro u3 E3 hK3
        obtain ⟨rfl, rfl⟩ := hK3
        simp only [Act.put, List.setIfInBounds_toArray, List.set_cons_zero, List.set_cons_succ]
        apply wpS_read (i := 4) rfl rfl ⟨_, hS⟩ rfl -- Op.move t0
        · intro w' hT'
          simp only [List.getElem_toArray, List.getElem_cons_zero, List.getElem_cons_succ]
          go_wp2_with fail
          first | exact ⟨rfl, rfl, rfl⟩ | rfl
        apply wpS_read (i := 5) rfl rfl ⟨_, hS⟩ rfl -- Op.move t3
        · intro w' hT'
          simp only [List.getElem_toArray, List.getElem_cons_zero, List.getElem_cons_succ]
          go_wp2_with fail
          first | exact ⟨rfl, rfl, rfl⟩ | rfl
        apply wpS_read (i := 6) rfl rfl ⟨_, hS⟩ rfl -- Op.slice 65 t21 (some t22) none none
        · intro w' hT'
          simp only [List.getElem_toArray, List.getElem_cons_zero, List.getElem_cons_succ]
          go_wp2_with (first
            | (refine slice_hiS rfl _ _ 40 rfl 30 undLHashT 32 infoHashS g o n c k rfl rfl (by have := HP.out; omega) (by omega) _ rfl ?_)
            | (refine slice_loS rfl _ _ 40 rfl 30 undLHashT 32 infoHashS g o n c k d rfl rfl (by have := HP.out; omega) (by have := HP.out; omega) HD.out _ rfl ?_)
            | fail)
          first | exact ⟨rfl, rfl, rfl⟩ | rfl
        refine wpS_soft (i := 7) rfl rfl rfl (Nat.le_of_ble_eq_true rfl) ?_ ?_ -- Op.call { value (Operand.func 22), args := #[t23], argTypes := #[65]
        · intro w' hT
          simp only [List.getElem_toArray, List.getElem_cons_zero, List.getElem_cons_succ]
          go_wp2_with (first
            | (go_at_call 18; refine (HI.out rs (some ⟨g, o + k * 32, none⟩) d (c - k) _ HL2.out (by have := HF.out; have := HP.out; have := HD.out; omega) (HRd.oldS hT HR2.out) H2.out (by have := HP.out; have := HD.out; omega) (by have := HP.out; have := HD.out; omega)).mono ?_; rintro e w6 ⟨rfl, hB6⟩; rw [hY.out])
            | fail)
          exact SoftP.mk' (.agg (ints .u8 Y).toArray) ([]) rfl (⟨rfl, rfl⟩) (hT.below hB6) (hB6) (fun _ h => by cases h)
        intro u7 E7 hK7
        obtain ⟨rfl, rfl⟩ := hK7
        simp only [Act.put, List.setIfInBounds_toArray, List.set_cons_zero, List.set_cons_succ]
        refine wpS_soft (i := 8) rfl rfl rfl (Nat.le_of_ble_eq_true rfl) ?_ ?_ -- Op.call { value (Operand.func 38), args := #[t20, t24], argTypes := 
        · intro w' hT
          simp only [List.getElem_toArray, List.getElem_cons_zero, List.getElem_cons_succ]
          go_wp2_with (first
            | (go_at_call 44; refine (node16_calls X Y _ HS1.out.1 HS2.out.1 HS1.out.2 HS2.out.2).mono ?_; rintro e w6 ⟨rfl, hB6⟩; rw [hds.out])
            | fail)
          exact SoftP.mk' (.agg (ints .u8 ds).toArray) ([]) rfl (⟨rfl, rfl⟩) (hT.below hB6) (hB6) (fun _ h => by cases h)
        intro u8 E8 hK8
        obtain ⟨rfl, rfl⟩ := hK8
        simp only [Act.put, List.setIfInBounds_toArray, List.set_cons_zero, List.set_cons_succ]
        refine wpS_tot (i := 9) rfl rfl (by kernel_rfl) ?_ -- Op.store 29 t2 t25
        intro w9 hT
        replace hT : HS NoF w w9 [ZH g2] := hT
        simp only [List.getElem_toArray, List.getElem_cons_zero, List.getElem_cons_succ]
        go_wp2_with (first
          | (refine hs_storeW hT 0 rfl rfl 30 _ _ rfl rfl (ints .u8 ds) rfl (ints_one' _ _) _ infoHashS (by simp [HDL.out]) (by simp) _ rfl ?_; clear hT; intro w9 hT)
          | fail)
        refine TotP.mk' ([.blk g2 30 (ints .u8 ds)]) rfl ?_ ?_
        · exact hT
        clear hT
        refine wpS_end ?_
        intro wz hT
        try dsimp only
        clear hS
        have hS : HS NoF w wz [.blk g2 30 (ints .u8 ds)] := hT
        clear hT
        go_wp2_with fail
        refine bodyPost_ret (results_blk rfl _ _ g2 _ _ 32 _ rfl (hS.blk 0 rfl) arrHashS (by simp [HDL.out]) infoHashS) rfl ⟨by rw [hds.out], hS.bel⟩
end Go.Proofs.YtlikinglgegclaaDoor
/- A tag's arithmetic: carry. -/
namespace Go.Proofs.YtlikinglgegclaaDoor
open Go.RowKit Go.Cour
theorem foldl_succ' {α : Type} (f : α → Nat → α) (s : α) (n : Nat) : (List.range (n + 1)).foldl f s = f ((List.range n).foldl f s) n := by
  rw [List.range_succ, List.foldl_append]; rfl
theorem info73 : (Tryd.prog.info? 165).map (·.size) = some 5 := by kernel_rfl
theorem arr73 : Tryd.prog.underlying 165 = some (.array 5 87) := by kernel_rfl
/-- The lowest 26 bits. -/
def low26 (x : Int) : Int := bits .and .u64 x 67108863
theorem low26_eq (x : Int) (h0 : 0 ≤ x) (h1 : x < 18446744073709551616) : low26 x = x % 67108864 :=
  bits_mask .u64 64 (by decide) (fun n h0 h1 => by rw [IntKind.wrap_u64]; omega) 26 (by decide) x h0 (by simpa using h1)
/-- A number of 64 bits. -/
def u64 (x : Int) : Int := IntKind.u64.wrap x
theorem u64_eq (x : Int) : u64 x = x % 18446744073709551616 := by unfold u64; rw [IntKind.wrap_u64]
/-- One part: what was carried is taken in, what is too much is carried on. -/
def carry1 (s : List Int × Int) (i : Nat) : List Int × Int := ((s.1.set i (u64 (rd s.1 i + s.2))).set i (low26 (u64 (rd s.1 i + s.2))), u64 (rd s.1 i + s.2) / 67108864)
def carryTo (xs : List Int) (n : Nat) : List Int × Int := (List.range n).foldl carry1 (xs, 0)
def carryRound (xs : List Int) : List Int := (carryTo xs 5).1.set 0 (u64 (rd (carryTo xs 5).1 0 + u64 (5 * (carryTo xs 5).2)))
def carryN (xs : List Int) (n : Nat) : List Int := (List.range n).foldl (fun s _ => carryRound s) xs
theorem carryTo_succ (xs : List Int) (n : Nat) : carryTo xs (n + 1) = carry1 (carryTo xs n) n := foldl_succ' _ _ _
theorem carryTo_zero (xs : List Int) : carryTo xs 0 = (xs, 0) := rfl
theorem carryN_succ (xs : List Int) (n : Nat) : carryN xs (n + 1) = carryRound (carryN xs n) := foldl_succ' _ _ _
theorem carryN_zero (xs : List Int) : carryN xs 0 = xs := rfl
theorem carryTo_length (xs : List Int) : ∀ n, (carryTo xs n).1.length = xs.length
  | 0 => rfl
  | n + 1 => by rw [carryTo_succ]; simp only [carry1, List.length_set]; exact carryTo_length xs n
theorem carryRound_length (xs : List Int) : (carryRound xs).length = xs.length := by
  simp only [carryRound, List.length_set]; exact carryTo_length xs 5
theorem carryN_length (xs : List Int) : ∀ n, (carryN xs n).length = xs.length
  | 0 => rfl
  | n + 1 => by rw [carryN_succ, carryRound_length]; exact carryN_length xs n
/-- What the blocks of a call of carry hold. -/
structure CS (w wr : World) (xs : List Int) : Prop where
  a : Blk wr w.heap.size 165 (ints .u64 xs)
  r : Blk wr (w.heap.size + 1) 165 (ints .u64 (List.replicate 5 0))
  below : Below w.heap.size w wr
theorem CS.set {w wr : World} {xs : List Int} (h : CS w wr xs) (i : Nat) (x : Int) : CS w (wr.setCell ⟨w.heap.size, i, none⟩ (.int .u64 x)) (xs.set i x) :=
  ⟨h.a.setI i x, h.r.setOther (by simp) _, h.below.setCell (by simp) _⟩
set_option maxHeartbeats 4000000 in
set_option maxRecDepth 100000 in
theorem carry_calls (xs : List Int) (w : World) (hx : xs.length = 5) :
    Calls Tryd.prog 116 #[.agg (ints .u64 xs).toArray] w fun e w' => e = .returned (.agg (ints .u64 (carryN xs 2)).toArray) ∧ Below w.heap.size w w' := by
  have HX := hid hx
  clear hx
  go_enter Tryd.func116, Tryd.ntmps116
  go_wp2_with fail
  go_loopg [5] 2 (fun kq v5 wr => ∃ i : Nat, i ≤ 2 ∧ v5 = .int .i64 i ∧ Hd (kq + i = 2) ∧ CS w wr (carryN xs i))
  case atStart =>
    refine ⟨0, by omega, rfl, hid rfl, ?_, ?_, ?_⟩
    · rw [carryN_zero]; exact (Blk.new w 165 (ints .u64 xs)).alloc _
    · exact Blk.new' (w.alloc _) 165 (ints .u64 (List.replicate 5 0)) _ (by simp)
    · exact ((Below.refl _ _).alloc (Nat.le_refl _) _).alloc (by simp) _
  case round =>
    obtain ⟨i, hi, rfl, hq, hS⟩ := hrel
    by_cases hlt : i < 2
    · have hd1 : decide ((i : Int) < 2) = true := by simp; omega
      go_wp2_with fail
      obtain ⟨wo, rfl⟩ : ∃ wo : World, wo = wr := ⟨_, rfl⟩
      obtain ⟨gk1, hgk⟩ : ∃ g : Nat, Hd (g = gk) := ⟨gk, hid rfl⟩
      have hq1 : Hd (gk1 + i = 2) := hid (by rw [hgk.out]; exact hq.out)
      obtain ⟨X, hX⟩ : ∃ X, Hd (X = carryN xs i) := ⟨_, hid rfl⟩
      have hXl : Hd (X.length = 5) := hid (by rw [hX.out, carryN_length]; exact HX.out)
      rw [← hX.out] at hS
      go_loopg [3, 7] 5 (fun kq v3 v7 wr => ∃ j : Nat, j ≤ 5 ∧ v7 = .int .i64 j ∧ v3 = .int .u64 (carryTo X j).2 ∧ Hd (kq + j = 5) ∧ CS w wr (carryTo X j).1)
      case atStart => exact ⟨0, by omega, rfl, rfl, hid rfl, hS⟩
      case round =>
        clear hS
        obtain ⟨j, hj, rfl, rfl, hq2, hS⟩ := hrel
        obtain ⟨Y, o, hY⟩ : ∃ Y o, Hd ((carryTo X j) = (Y, o)) := ⟨_, _, hid rfl⟩
        rw [hY.out] at hS ⊢
        dsimp only at hS ⊢
        have hYl : Y.length = 5 := by have := carryTo_length X j; rw [hY.out] at this; rw [← hXl.out]; exact this
        by_cases hjlt : j < 5
        · have cj := hS.a.cellI j (by omega)
          have fj := hS.a.frozen j
          have cj2 := (hS.set j (u64 (rd Y j + o))).a.cellI j (by simp; omega)
          have fj2 := (hS.set j (u64 (rd Y j + o))).a.frozen j
          rw [rd_set', if_pos ⟨rfl, by omega⟩] at cj2
          have HYl := hid hYl
          clear hYl
          go_wp2_with fail
          go_roundg (gk - 1)
          case measure => have := hq2.out; omega
          case rel =>
            refine ⟨j + 1, by omega, by go_num, ?_, hid (by have := hq2.out; omega), ?_⟩
            · rw [carryTo_succ, hY.out]; rfl
            · rw [carryTo_succ, hY.out]; exact (hS.set j _).set j _
        · have hj5 : (j : Int) = 5 := by omega
          rw [hj5]
          obtain rfl : j = 5 := by omega
          have c0 := hS.a.cellI 0 (by omega)
          have f0 := hS.a.frozen 0
          have HYl := hid hYl
          clear hYl hjlt hj5 hj
          go_wp2_with fail
          go_roundg (gk1 - 1)
          case measure => have := hq1.out; have := hgk.out; omega
          case rel =>
            refine ⟨i + 1, by omega, by go_num, hid (by have := hq1.out; omega), ?_⟩
            have he : carryN xs (i + 1) = Y.set 0 (u64 (rd Y 0 + u64 (5 * o))) := by
              rw [carryN_succ, ← hX.out, carryRound, hY.out]
            rw [he]
            exact hS.set 0 _
    · obtain rfl : i = 2 := by omega
      have hl5 : (ints .u64 (carryN xs 2)).length = 5 := by rw [ints_length, carryN_length]; exact HX.out
      have HL := hid hl5
      clear hl5 hi hlt
      go_wp2_with (first
        | (refine load_blk rfl 165 _ rfl w.heap.size rfl 165 _ hS.a 5 87 arr73 HL.out info73 ?_)
        | (refine store_blk rfl 165 _ _ rfl (w.heap.size + 1) _ rfl rfl 165 _ hS.r 5 info73 HL.out (by simp) (ints_one _ _) ?_))
      refine bodyPost_ret (results_blk rfl _ _ (w.heap.size + 1) 165 _ 5 87 rfl (hS.r.setRow _) arr73 HL.out info73) rfl ?_
      exact ⟨rfl, below_setRow hS.below (by omega) _⟩
end Go.Proofs.YtlikinglgegclaaDoor
