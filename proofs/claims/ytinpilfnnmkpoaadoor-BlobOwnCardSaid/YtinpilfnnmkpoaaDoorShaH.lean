/- The reference's round. -/
import Derived.Test.YtinpilfnnmkpoaaDoorShaG
namespace Go.Proofs.YtinpilfnnmkpoaaDoor
open Go.RowKit Go.Cour
theorem bits_or_comm' (k : IntKind) (x y : Int) : bits .or k x y = bits .or k y x := by
  unfold bits
  simp only [BitVec.or_comm]
theorem rotr2_calls (x : Int) (w : World) (h : 0 ≤ x) (h' : x < 4294967296) :
    Calls Tryd.prog 45 #[.int .u32 x, .int .u64 2] w fun e w' => e = .returned (.int .u32 (rotr 2 x)) ∧ w' = w :=
  (rot2_calls x w h h').mono fun e w' ⟨h1, h2⟩ => ⟨by rw [h1, bits_or_comm']; rfl, h2⟩
theorem rotr6_calls (x : Int) (w : World) (h : 0 ≤ x) (h' : x < 4294967296) :
    Calls Tryd.prog 45 #[.int .u32 x, .int .u64 6] w fun e w' => e = .returned (.int .u32 (rotr 6 x)) ∧ w' = w :=
  (rot6_calls x w h h').mono fun e w' ⟨h1, h2⟩ => ⟨by rw [h1, bits_or_comm']; rfl, h2⟩
theorem rotr7_calls (x : Int) (w : World) (h : 0 ≤ x) (h' : x < 4294967296) :
    Calls Tryd.prog 45 #[.int .u32 x, .int .u64 7] w fun e w' => e = .returned (.int .u32 (rotr 7 x)) ∧ w' = w :=
  (rot7_calls x w h h').mono fun e w' ⟨h1, h2⟩ => ⟨by rw [h1, bits_or_comm']; rfl, h2⟩
theorem rotr11_calls (x : Int) (w : World) (h : 0 ≤ x) (h' : x < 4294967296) :
    Calls Tryd.prog 45 #[.int .u32 x, .int .u64 11] w fun e w' => e = .returned (.int .u32 (rotr 11 x)) ∧ w' = w :=
  (rot11_calls x w h h').mono fun e w' ⟨h1, h2⟩ => ⟨by rw [h1, bits_or_comm']; rfl, h2⟩
theorem rotr13_calls (x : Int) (w : World) (h : 0 ≤ x) (h' : x < 4294967296) :
    Calls Tryd.prog 45 #[.int .u32 x, .int .u64 13] w fun e w' => e = .returned (.int .u32 (rotr 13 x)) ∧ w' = w :=
  (rot13_calls x w h h').mono fun e w' ⟨h1, h2⟩ => ⟨by rw [h1, bits_or_comm']; rfl, h2⟩
theorem rotr17_calls (x : Int) (w : World) (h : 0 ≤ x) (h' : x < 4294967296) :
    Calls Tryd.prog 45 #[.int .u32 x, .int .u64 17] w fun e w' => e = .returned (.int .u32 (rotr 17 x)) ∧ w' = w :=
  (rot17_calls x w h h').mono fun e w' ⟨h1, h2⟩ => ⟨by rw [h1, bits_or_comm']; rfl, h2⟩
theorem rotr18_calls (x : Int) (w : World) (h : 0 ≤ x) (h' : x < 4294967296) :
    Calls Tryd.prog 45 #[.int .u32 x, .int .u64 18] w fun e w' => e = .returned (.int .u32 (rotr 18 x)) ∧ w' = w :=
  (rot18_calls x w h h').mono fun e w' ⟨h1, h2⟩ => ⟨by rw [h1, bits_or_comm']; rfl, h2⟩
theorem rotr19_calls (x : Int) (w : World) (h : 0 ≤ x) (h' : x < 4294967296) :
    Calls Tryd.prog 45 #[.int .u32 x, .int .u64 19] w fun e w' => e = .returned (.int .u32 (rotr 19 x)) ∧ w' = w :=
  (rot19_calls x w h h').mono fun e w' ⟨h1, h2⟩ => ⟨by rw [h1, bits_or_comm']; rfl, h2⟩
theorem rotr22_calls (x : Int) (w : World) (h : 0 ≤ x) (h' : x < 4294967296) :
    Calls Tryd.prog 45 #[.int .u32 x, .int .u64 22] w fun e w' => e = .returned (.int .u32 (rotr 22 x)) ∧ w' = w :=
  (rot22_calls x w h h').mono fun e w' ⟨h1, h2⟩ => ⟨by rw [h1, bits_or_comm']; rfl, h2⟩
theorem rotr25_calls (x : Int) (w : World) (h : 0 ≤ x) (h' : x < 4294967296) :
    Calls Tryd.prog 45 #[.int .u32 x, .int .u64 25] w fun e w' => e = .returned (.int .u32 (rotr 25 x)) ∧ w' = w :=
  (rot25_calls x w h h').mono fun e w' ⟨h1, h2⟩ => ⟨by rw [h1, bits_or_comm']; rfl, h2⟩
/-- What the blocks of the reference's round hold. -/
abbrev RS (w wr : World) (g2 g4 g5 g6 : Nat) (h ks xs : List Int) : Prop := HS NoF w wr [.blk g6 84 (ints .u32 xs), .blk g5 84 (ints .u32 ks), .blk g4 74 (ints .u32 (List.replicate 8 0)), .blk g2 74 (ints .u32 h)]
abbrev RV (w wr : World) (g2 g4 g5 g6 gv : Nat) (h ks xs v : List Int) : Prop := HS NoF w wr [.blk gv 74 (ints .u32 v), .blk g6 84 (ints .u32 xs), .blk g5 84 (ints .u32 ks), .blk g4 74 (ints .u32 (List.replicate 8 0)), .blk g2 74 (ints .u32 h)]
set_option maxHeartbeats 4000000 in
set_option maxRecDepth 100000 in
theorem round1_calls (h b : List Int) (g o n c : Nat) (w : World) (hl : h.length = 8) (hh : ∀ x ∈ h, W32 x) (hb : At w g o b 64) (hr : ∀ i, 0 ≤ rd b i ∧ rd b i < 256) (hn : 64 ≤ n) :
    Calls Tryd.prog 36 #[.agg (ints .u32 h).toArray, .slice (some ⟨g, o, none⟩) n c] w fun e w' => e = .returned (.agg (ints .u32 (shaBlock h b)).toArray) ∧ Below w.heap.size w w' := by
  have HB := hid hb
  have HR := hid hr
  have HL := hid hl
  obtain ⟨ks, hks⟩ : ∃ ks, Hd (shaK = ks) := ⟨_, hid rfl⟩
  have HLk : Hd (ks.length = 64) := hid (by rw [← hks.out]; rfl)
  have hKb : Hd (Tryd.prog.built 84 ((shaK.zipIdx 0).map fun x => (x.2, Value.int .u32 x.1)) = some (ints .u32 ks).toArray) := hid (by rw [← hks.out]; kernel_rfl)
  clear hb hr hl
  have hS := HS.start NoF w
  go_enter Tryd.func36, Tryd.ntmps36
  go_wp2_with (first
    | (refine box_blk rfl 74 _ rfl _ rfl (ints .u32 h) rfl ?_; intro g2 wz hga hba hBa hsa; replace hS := hS.pushBlk hBa hba hga; clear hga hba hBa hsa)
    | (refine alloc_blk rfl 74 rfl _ rfl (ints .u32 (List.replicate 8 0)) zeroW8 ?_; intro g4 w4 hga hba hBa hsa; replace hS := hS.pushBlk hBa hba hga; clear hga hba hBa hsa)
    | (have _ := mk0; refine alloc_blk rfl 84 rfl _ rfl (ints .u32 (List.replicate 64 0)) zeroW64 ?_; intro g6 w6 hga hba hBa hsa; replace hS := hS.pushBlk hBa hba hga; clear hga hba hBa hsa; have mk1 : True := trivial)
    | (refine alloc_blk rfl 84 rfl _ rfl (ints .u32 (List.replicate 64 0)) zeroW64 ?_; intro g5 w5 hga hba hBa hsa; replace hS := hS.pushBlk hBa hba hga; clear hga hba hBa hsa; have mk0 : True := trivial)
    | (refine wpList_buildFlatArr rfl 84 73 64 _ rfl .u32 shaK arrW64 sizeU32 (by kernel_rfl) (by rfl) ?_; rw [show (shaK.map (Value.int .u32)) = ints .u32 ks from by rw [hks.out]; rfl])
    | (refine hs_storeW hS 0 rfl rfl 84 _ _ rfl rfl (ints .u32 ks) rfl (ints_one' _ _) _ infoW64 (by simp [HLk.out]) (by simp) _ rfl ?_; clear hS; intro w9 hS)
    | fail)
  replace hS : RS w w6 g2 g4 g5 g6 h ks (schedA b 0) := hS
  clear hKb
  go_loopg [7] 17 (fun kq v7 wr => ∃ i : Nat, i ≤ 16 ∧ v7 = .int .i64 i ∧ Hd (kq + i = 17) ∧ RS w wr g2 g4 g5 g6 h ks (schedA b i))
  case atStart => exact ⟨0, by omega, rfl, hid (by omega), hS⟩
  case round =>
    clear hS
    obtain ⟨i, hi, rfl, hq, hS⟩ := hrel
    by_cases hlt : i < 16
    · have hlt2 : (i : Int) < 16 := by omega
      obtain ⟨p, hp⟩ : ∃ p : Nat, 4 * i = p := ⟨_, rfl⟩
      have hp2 : 4 * (i : Int) = (p : Int) := by omega
      have hpn : p + 3 < n := by omega
      have HW : Hd (word32 b i = bits .or .u32 (bits .or .u32 (bits .or .u32 (rd b p * 16777216) (rd b (p + 1) * 65536)) (rd b (p + 2) * 256)) (rd b (p + 3))) := hid (by rw [← hp]; rfl)
      have r0 := HR.out p
      have r1 := HR.out (p + 1)
      have r2 := HR.out (p + 2)
      have r3 := HR.out (p + 3)
      have c0 := hid (HB.out p (by omega))
      have c1 := hid (HB.out (p + 1) (by omega))
      have c2 := hid (HB.out (p + 2) (by omega))
      have c3 := hid (HB.out (p + 3) (by omega))
      have HLA : Hd (i < (schedA b i).length) := hid (by simp; omega)
      have HX := hid (schedA_succ b i)
      generalize rd b p = b0 at *
      generalize rd b (p + 1) = b1 at *
      generalize rd b (p + 2) = b2 at *
      generalize rd b (p + 3) = b3 at *
      clear hp
      try go_wp2_with fail
      refine wp_region_L (T := fun w' => RS w w' g2 g4 g5 g6 h ks (schedA b i)) (by kernel_rfl) (by kernel_rfl) hS.drew ?_
      intro wa hT
      show wpT _ _ _ _ [0, 1, 2, 3, 4, 5, 6, 7, 8, 9, 10, 11, 12, 13, 14, 15, 16, 17, 18, 19, 20, 21, 22, 23, 24, 25, 26, 27, 28, 29, 30, 31, 32, 33, 34, 35] _ _
      apply wpT_read (i := 0) rfl hT rfl -- Op.move t7
      · intro w' hT'
        simp only [List.getElem_toArray, List.getElem_cons_zero, List.getElem_cons_succ]
        go_wp2_with fail
        first | exact ⟨rfl, rfl, rfl⟩ | rfl
      apply wpT_read (i := 1) rfl hT rfl -- Op.move t1
      · intro w' hT'
        simp only [List.getElem_toArray, List.getElem_cons_zero, List.getElem_cons_succ]
        go_wp2_with fail
        first | exact ⟨rfl, rfl, rfl⟩ | rfl
      apply wpT_read (i := 2) rfl hT rfl -- Op.move t7
      · intro w' hT'
        simp only [List.getElem_toArray, List.getElem_cons_zero, List.getElem_cons_succ]
        go_wp2_with fail
        first | exact ⟨rfl, rfl, rfl⟩ | rfl
      apply wpT_read (i := 3) rfl hT rfl -- Op.binOp BinOp.mul 3 (const (4:i64)) t26 3
      · intro w' hT'
        simp only [List.getElem_toArray, List.getElem_cons_zero, List.getElem_cons_succ]
        go_wp2_with fail
        first | exact ⟨rfl, rfl, rfl⟩ | rfl
      apply wpT_read (i := 4) rfl hT rfl -- Op.indexAddr 41 t25 t27
      · intro w' hT'
        simp only [List.getElem_toArray, List.getElem_cons_zero, List.getElem_cons_succ]
        go_wp2_with fail
        first | exact ⟨rfl, rfl, rfl⟩ | rfl
      apply wpT_read (i := 5) rfl hT rfl -- Op.load 5 t28
      · intro w' hT'
        simp only [List.getElem_toArray, List.getElem_cons_zero, List.getElem_cons_succ]
        have k0 := hT'.oldCell c0.out id
        have k1 := hT'.oldCell c1.out id
        have k2 := hT'.oldCell c2.out id
        have k3 := hT'.oldCell c3.out id
        go_wp2_with fail
        first | exact ⟨rfl, rfl, rfl⟩ | rfl
      apply wpT_read (i := 6) rfl hT rfl -- Op.convert 5 73 t29
      · intro w' hT'
        simp only [List.getElem_toArray, List.getElem_cons_zero, List.getElem_cons_succ]
        go_wp2_with fail
        first | exact ⟨rfl, rfl, rfl⟩ | rfl
      apply wpT_read (i := 7) rfl hT rfl -- Op.binOp BinOp.shl 73 t30 (const (24:u64)) 63
      · intro w' hT'
        simp only [List.getElem_toArray, List.getElem_cons_zero, List.getElem_cons_succ]
        go_wp2_with fail
        first | exact ⟨rfl, rfl, rfl⟩ | rfl
      apply wpT_read (i := 8) rfl hT rfl -- Op.move t1
      · intro w' hT'
        simp only [List.getElem_toArray, List.getElem_cons_zero, List.getElem_cons_succ]
        go_wp2_with fail
        first | exact ⟨rfl, rfl, rfl⟩ | rfl
      apply wpT_read (i := 9) rfl hT rfl -- Op.move t7
      · intro w' hT'
        simp only [List.getElem_toArray, List.getElem_cons_zero, List.getElem_cons_succ]
        go_wp2_with fail
        first | exact ⟨rfl, rfl, rfl⟩ | rfl
      apply wpT_read (i := 10) rfl hT rfl -- Op.binOp BinOp.mul 3 (const (4:i64)) t33 3
      · intro w' hT'
        simp only [List.getElem_toArray, List.getElem_cons_zero, List.getElem_cons_succ]
        go_wp2_with fail
        first | exact ⟨rfl, rfl, rfl⟩ | rfl
      apply wpT_read (i := 11) rfl hT rfl -- Op.binOp BinOp.add 3 t34 (const (1:i64)) 3
      · intro w' hT'
        simp only [List.getElem_toArray, List.getElem_cons_zero, List.getElem_cons_succ]
        go_wp2_with fail
        first | exact ⟨rfl, rfl, rfl⟩ | rfl
      apply wpT_read (i := 12) rfl hT rfl -- Op.indexAddr 41 t32 t35
      · intro w' hT'
        simp only [List.getElem_toArray, List.getElem_cons_zero, List.getElem_cons_succ]
        go_wp2_with fail
        first | exact ⟨rfl, rfl, rfl⟩ | rfl
      apply wpT_read (i := 13) rfl hT rfl -- Op.load 5 t36
      · intro w' hT'
        simp only [List.getElem_toArray, List.getElem_cons_zero, List.getElem_cons_succ]
        have k0 := hT'.oldCell c0.out id
        have k1 := hT'.oldCell c1.out id
        have k2 := hT'.oldCell c2.out id
        have k3 := hT'.oldCell c3.out id
        go_wp2_with fail
        first | exact ⟨rfl, rfl, rfl⟩ | rfl
      apply wpT_read (i := 14) rfl hT rfl -- Op.convert 5 73 t37
      · intro w' hT'
        simp only [List.getElem_toArray, List.getElem_cons_zero, List.getElem_cons_succ]
        go_wp2_with fail
        first | exact ⟨rfl, rfl, rfl⟩ | rfl
      apply wpT_read (i := 15) rfl hT rfl -- Op.binOp BinOp.shl 73 t38 (const (16:u64)) 63
      · intro w' hT'
        simp only [List.getElem_toArray, List.getElem_cons_zero, List.getElem_cons_succ]
        go_wp2_with fail
        first | exact ⟨rfl, rfl, rfl⟩ | rfl
      apply wpT_read (i := 16) rfl hT rfl -- Op.binOp BinOp.or 73 t31 t39 73
      · intro w' hT'
        simp only [List.getElem_toArray, List.getElem_cons_zero, List.getElem_cons_succ]
        go_wp2_with fail
        first | exact ⟨rfl, rfl, rfl⟩ | rfl
      apply wpT_read (i := 17) rfl hT rfl -- Op.move t1
      · intro w' hT'
        simp only [List.getElem_toArray, List.getElem_cons_zero, List.getElem_cons_succ]
        go_wp2_with fail
        first | exact ⟨rfl, rfl, rfl⟩ | rfl
      apply wpT_read (i := 18) rfl hT rfl -- Op.move t7
      · intro w' hT'
        simp only [List.getElem_toArray, List.getElem_cons_zero, List.getElem_cons_succ]
        go_wp2_with fail
        first | exact ⟨rfl, rfl, rfl⟩ | rfl
      apply wpT_read (i := 19) rfl hT rfl -- Op.binOp BinOp.mul 3 (const (4:i64)) t42 3
      · intro w' hT'
        simp only [List.getElem_toArray, List.getElem_cons_zero, List.getElem_cons_succ]
        go_wp2_with fail
        first | exact ⟨rfl, rfl, rfl⟩ | rfl
      apply wpT_read (i := 20) rfl hT rfl -- Op.binOp BinOp.add 3 t43 (const (2:i64)) 3
      · intro w' hT'
        simp only [List.getElem_toArray, List.getElem_cons_zero, List.getElem_cons_succ]
        go_wp2_with fail
        first | exact ⟨rfl, rfl, rfl⟩ | rfl
      apply wpT_read (i := 21) rfl hT rfl -- Op.indexAddr 41 t41 t44
      · intro w' hT'
        simp only [List.getElem_toArray, List.getElem_cons_zero, List.getElem_cons_succ]
        go_wp2_with fail
        first | exact ⟨rfl, rfl, rfl⟩ | rfl
      apply wpT_read (i := 22) rfl hT rfl -- Op.load 5 t45
      · intro w' hT'
        simp only [List.getElem_toArray, List.getElem_cons_zero, List.getElem_cons_succ]
        have k0 := hT'.oldCell c0.out id
        have k1 := hT'.oldCell c1.out id
        have k2 := hT'.oldCell c2.out id
        have k3 := hT'.oldCell c3.out id
        go_wp2_with fail
        first | exact ⟨rfl, rfl, rfl⟩ | rfl
      apply wpT_read (i := 23) rfl hT rfl -- Op.convert 5 73 t46
      · intro w' hT'
        simp only [List.getElem_toArray, List.getElem_cons_zero, List.getElem_cons_succ]
        go_wp2_with fail
        first | exact ⟨rfl, rfl, rfl⟩ | rfl
      apply wpT_read (i := 24) rfl hT rfl -- Op.binOp BinOp.shl 73 t47 (const (8:u64)) 63
      · intro w' hT'
        simp only [List.getElem_toArray, List.getElem_cons_zero, List.getElem_cons_succ]
        go_wp2_with fail
        first | exact ⟨rfl, rfl, rfl⟩ | rfl
      apply wpT_read (i := 25) rfl hT rfl -- Op.binOp BinOp.or 73 t40 t48 73
      · intro w' hT'
        simp only [List.getElem_toArray, List.getElem_cons_zero, List.getElem_cons_succ]
        go_wp2_with fail
        first | exact ⟨rfl, rfl, rfl⟩ | rfl
      apply wpT_read (i := 26) rfl hT rfl -- Op.move t1
      · intro w' hT'
        simp only [List.getElem_toArray, List.getElem_cons_zero, List.getElem_cons_succ]
        go_wp2_with fail
        first | exact ⟨rfl, rfl, rfl⟩ | rfl
      apply wpT_read (i := 27) rfl hT rfl -- Op.move t7
      · intro w' hT'
        simp only [List.getElem_toArray, List.getElem_cons_zero, List.getElem_cons_succ]
        go_wp2_with fail
        first | exact ⟨rfl, rfl, rfl⟩ | rfl
      apply wpT_read (i := 28) rfl hT rfl -- Op.binOp BinOp.mul 3 (const (4:i64)) t51 3
      · intro w' hT'
        simp only [List.getElem_toArray, List.getElem_cons_zero, List.getElem_cons_succ]
        go_wp2_with fail
        first | exact ⟨rfl, rfl, rfl⟩ | rfl
      apply wpT_read (i := 29) rfl hT rfl -- Op.binOp BinOp.add 3 t52 (const (3:i64)) 3
      · intro w' hT'
        simp only [List.getElem_toArray, List.getElem_cons_zero, List.getElem_cons_succ]
        go_wp2_with fail
        first | exact ⟨rfl, rfl, rfl⟩ | rfl
      apply wpT_read (i := 30) rfl hT rfl -- Op.indexAddr 41 t50 t53
      · intro w' hT'
        simp only [List.getElem_toArray, List.getElem_cons_zero, List.getElem_cons_succ]
        go_wp2_with fail
        first | exact ⟨rfl, rfl, rfl⟩ | rfl
      apply wpT_read (i := 31) rfl hT rfl -- Op.load 5 t54
      · intro w' hT'
        simp only [List.getElem_toArray, List.getElem_cons_zero, List.getElem_cons_succ]
        have k0 := hT'.oldCell c0.out id
        have k1 := hT'.oldCell c1.out id
        have k2 := hT'.oldCell c2.out id
        have k3 := hT'.oldCell c3.out id
        go_wp2_with fail
        first | exact ⟨rfl, rfl, rfl⟩ | rfl
      apply wpT_read (i := 32) rfl hT rfl -- Op.convert 5 73 t55
      · intro w' hT'
        simp only [List.getElem_toArray, List.getElem_cons_zero, List.getElem_cons_succ]
        go_wp2_with fail
        first | exact ⟨rfl, rfl, rfl⟩ | rfl
      apply wpT_read (i := 33) rfl hT rfl -- Op.binOp BinOp.or 73 t49 t56 73
      · intro w' hT'
        simp only [List.getElem_toArray, List.getElem_cons_zero, List.getElem_cons_succ]
        go_wp2_with fail
        first | exact ⟨rfl, rfl, rfl⟩ | rfl
      apply wpT_read (i := 34) rfl hT rfl -- Op.indexAddr 84 t6 t24
      · intro w' hT'
        simp only [List.getElem_toArray, List.getElem_cons_zero, List.getElem_cons_succ]
        go_wp2_with fail
        first | exact ⟨rfl, rfl, rfl⟩ | rfl
      refine wpT_totL (i := 35) rfl rfl (by kernel_rfl) ?_ -- Op.store 73 t58 t57
      simp only [List.getElem_toArray, List.getElem_cons_zero, List.getElem_cons_succ]
      have fz := hT.frozen 0 rfl i
      have cc := hT.cellI 0 rfl i HLA.out
      go_wp2_with fail
      refine OnX.mk (fun w' => RS w w' g2 g4 g5 g6 h ks (schedA b (i + 1))) rfl ?_ ?_
      · rw [HX.out, HW.out]; exact hT.setI 0 rfl i _
      clear hT
      clear fz cc
      intro w6_35 hT
      refine wpT_end ?_
      try dsimp only

      go_wp2_with fail
      go_roundg (gk - 1)
      case measure => have := hq.out; omega
      case rel => exact ⟨i + 1, by omega, by go_num, hid (by have := hq.out; omega), hT⟩
    · obtain rfl : i = 16 := by omega
      have hA : Hd (schedA b 16 = schedB b 0) := hid rfl
      rw [hA.out] at hS
      clear hA
      go_wp2_with fail
      go_loopg [8, 9, 10] 49 (fun kq v8 v9 v10 wr => ∃ q : Nat, 16 ≤ q ∧ q ≤ 64 ∧ v8 = .int .i64 q ∧ Hd (kq + q = 65) ∧ RS w wr g2 g4 g5 g6 h ks (schedB b (q - 16)))
      case atStart => exact ⟨16, by omega, by omega, rfl, hid (by omega), hS⟩
      case round =>
        clear hS hq
        obtain ⟨q, hq1, hq2, rfl, hq, hS⟩ := hrel
        by_cases hlt : q < 64
        · have hlt2 : (q : Int) < 64 := by omega
          obtain ⟨p15, hp15⟩ : ∃ p : Nat, q - 15 = p := ⟨_, rfl⟩
          obtain ⟨p2, hp2⟩ : ∃ p : Nat, q - 2 = p := ⟨_, rfl⟩
          obtain ⟨p16, hp16⟩ : ∃ p : Nat, q - 16 = p := ⟨_, rfl⟩
          obtain ⟨p7, hp7⟩ : ∃ p : Nat, q - 7 = p := ⟨_, rfl⟩
          have e15 : (q : Int) - 15 = (p15 : Int) := by omega
          have e2 : (q : Int) - 2 = (p2 : Int) := by omega
          have e16 : (q : Int) - 16 = (p16 : Int) := by omega
          have e7 : (q : Int) - 7 = (p7 : Int) := by omega
          have l15 : p15 < 64 := by omega
          have l2 : p2 < 64 := by omega
          have l16 : p16 < 64 := by omega
          have l7 : p7 < 64 := by omega
          have HX := hid (schedB_succ b p16)
          rw [hp16] at hS
          have hq16 : 16 + p16 = q := by omega
          have HN : Hd (q + 1 - 16 = p16 + 1) := hid (by omega)
          rw [hq16] at HX
          have R := schedB_W32 b p16
          have HL2 := schedB_length b p16
          generalize schedB b p16 = ws at *
          obtain ⟨x15, hx15⟩ : ∃ x, rd ws p15 = x := ⟨_, rfl⟩
          obtain ⟨x2, hx2⟩ : ∃ x, rd ws p2 = x := ⟨_, rfl⟩
          obtain ⟨x16, hx16⟩ : ∃ x, rd ws p16 = x := ⟨_, rfl⟩
          obtain ⟨x7, hx7⟩ : ∃ x, rd ws p7 = x := ⟨_, rfl⟩
          obtain ⟨r15, s15⟩ : W32 x15 := hx15 ▸ rd_all R zero_W32 _
          obtain ⟨r2, s2⟩ : W32 x2 := hx2 ▸ rd_all R zero_W32 _
          obtain ⟨r16, s16⟩ : W32 x16 := hx16 ▸ rd_all R zero_W32 _
          obtain ⟨r7, s7⟩ : W32 x7 := hx7 ▸ rd_all R zero_W32 _
          have HW : Hd (schedW ws q = (x16 + sig 7 18 8 x15 + x7 + sig 17 19 1024 x2) % 4294967296) := hid (by unfold schedW; rw [hp15, hp2, hp16, hp7, hx15, hx2, hx16, hx7])
          have C15 : Hd (∀ {w'}, RS w w' g2 g4 g5 g6 h ks ws → w'.cell? ⟨g6, p15, none⟩ = some (.int .u32 x15)) := hid fun h => by rw [h.cellI 0 rfl p15 (by omega), hx15]
          have C2 : Hd (∀ {w'}, RS w w' g2 g4 g5 g6 h ks ws → w'.cell? ⟨g6, p2, none⟩ = some (.int .u32 x2)) := hid fun h => by rw [h.cellI 0 rfl p2 (by omega), hx2]
          have C16 : Hd (∀ {w'}, RS w w' g2 g4 g5 g6 h ks ws → w'.cell? ⟨g6, p16, none⟩ = some (.int .u32 x16)) := hid fun h => by rw [h.cellI 0 rfl p16 (by omega), hx16]
          have C7 : Hd (∀ {w'}, RS w w' g2 g4 g5 g6 h ks ws → w'.cell? ⟨g6, p7, none⟩ = some (.int .u32 x7)) := hid fun h => by rw [h.cellI 0 rfl p7 (by omega), hx7]
          have HQ : Hd (q < ws.length) := hid (by omega)
          clear hp15 hp2 hp16 hp7 hx15 hx2 hx16 hx7 R hq16 HL2
          try go_wp2_with fail
          refine wp_region_L (T := fun w' => RS w w' g2 g4 g5 g6 h ks ws) (by kernel_rfl) (by kernel_rfl) hS.drew ?_
          intro wa hT
          show wpT _ _ _ _ [0, 1, 2, 3, 4, 5, 6, 7, 8, 9, 10, 11, 12, 13, 14, 15, 16, 17] _ _
          apply wpT_read (i := 0) rfl hT rfl -- Op.move t8
          · intro w' hT'
            simp only [List.getElem_toArray, List.getElem_cons_zero, List.getElem_cons_succ]
            go_wp2_with fail
            first | exact ⟨rfl, rfl, rfl⟩ | rfl
          apply wpT_read (i := 1) rfl hT rfl -- Op.binOp BinOp.sub 3 t63 (const (15:i64)) 3
          · intro w' hT'
            simp only [List.getElem_toArray, List.getElem_cons_zero, List.getElem_cons_succ]
            go_wp2_with fail
            first | exact ⟨rfl, rfl, rfl⟩ | rfl
          apply wpT_read (i := 2) rfl hT rfl -- Op.indexAddr 84 t6 t64
          · intro w' hT'
            simp only [List.getElem_toArray, List.getElem_cons_zero, List.getElem_cons_succ]
            go_wp2_with fail
            first | exact ⟨rfl, rfl, rfl⟩ | rfl
          apply wpT_read (i := 3) rfl hT rfl -- Op.load 73 t65
          · intro w' hT'
            simp only [List.getElem_toArray, List.getElem_cons_zero, List.getElem_cons_succ]
            have k15 := C15.out hT'
            go_wp2_with fail
            first | exact ⟨rfl, rfl, rfl⟩ | rfl
          refine wpT_actL (i := 4) rfl rfl ?_ -- Op.call { value (Operand.func 45), args := #[t66, const (7:u64)], ar
          simp only [List.getElem_toArray, List.getElem_cons_zero, List.getElem_cons_succ]
          go_wp2_with (first
            | (go_at_call 45; refine (rotr7_calls x15 _ r15 s15).mono ?_; rintro e w1 ⟨rfl, rfl⟩)
            | fail)
          refine OnT.mk rfl ?_ ?_
          · exact hT
          clear hT
          intro w10_4 hT
          apply wpT_read (i := 5) rfl hT rfl -- Op.move t8
          · intro w' hT'
            simp only [List.getElem_toArray, List.getElem_cons_zero, List.getElem_cons_succ]
            go_wp2_with fail
            first | exact ⟨rfl, rfl, rfl⟩ | rfl
          apply wpT_read (i := 6) rfl hT rfl -- Op.binOp BinOp.sub 3 t68 (const (15:i64)) 3
          · intro w' hT'
            simp only [List.getElem_toArray, List.getElem_cons_zero, List.getElem_cons_succ]
            go_wp2_with fail
            first | exact ⟨rfl, rfl, rfl⟩ | rfl
          apply wpT_read (i := 7) rfl hT rfl -- Op.indexAddr 84 t6 t69
          · intro w' hT'
            simp only [List.getElem_toArray, List.getElem_cons_zero, List.getElem_cons_succ]
            go_wp2_with fail
            first | exact ⟨rfl, rfl, rfl⟩ | rfl
          apply wpT_read (i := 8) rfl hT rfl -- Op.load 73 t70
          · intro w' hT'
            simp only [List.getElem_toArray, List.getElem_cons_zero, List.getElem_cons_succ]
            have k15 := C15.out hT'
            go_wp2_with fail
            first | exact ⟨rfl, rfl, rfl⟩ | rfl
          refine wpT_actL (i := 9) rfl rfl ?_ -- Op.call { value (Operand.func 45), args := #[t71, const (18:u64)], a
          simp only [List.getElem_toArray, List.getElem_cons_zero, List.getElem_cons_succ]
          go_wp2_with (first
            | (go_at_call 45; refine (rotr18_calls x15 _ r15 s15).mono ?_; rintro e w1 ⟨rfl, rfl⟩)
            | fail)
          refine OnT.mk rfl ?_ ?_
          · exact hT
          clear hT
          intro w10_9 hT
          apply wpT_read (i := 10) rfl hT rfl -- Op.binOp BinOp.xor 73 t67 t72 73
          · intro w' hT'
            simp only [List.getElem_toArray, List.getElem_cons_zero, List.getElem_cons_succ]
            go_wp2_with fail
            first | exact ⟨rfl, rfl, rfl⟩ | rfl
          apply wpT_read (i := 11) rfl hT rfl -- Op.move t8
          · intro w' hT'
            simp only [List.getElem_toArray, List.getElem_cons_zero, List.getElem_cons_succ]
            go_wp2_with fail
            first | exact ⟨rfl, rfl, rfl⟩ | rfl
          apply wpT_read (i := 12) rfl hT rfl -- Op.binOp BinOp.sub 3 t74 (const (15:i64)) 3
          · intro w' hT'
            simp only [List.getElem_toArray, List.getElem_cons_zero, List.getElem_cons_succ]
            go_wp2_with fail
            first | exact ⟨rfl, rfl, rfl⟩ | rfl
          apply wpT_read (i := 13) rfl hT rfl -- Op.indexAddr 84 t6 t75
          · intro w' hT'
            simp only [List.getElem_toArray, List.getElem_cons_zero, List.getElem_cons_succ]
            go_wp2_with fail
            first | exact ⟨rfl, rfl, rfl⟩ | rfl
          apply wpT_read (i := 14) rfl hT rfl -- Op.load 73 t76
          · intro w' hT'
            simp only [List.getElem_toArray, List.getElem_cons_zero, List.getElem_cons_succ]
            have k15 := C15.out hT'
            go_wp2_with fail
            first | exact ⟨rfl, rfl, rfl⟩ | rfl
          apply wpT_read (i := 15) rfl hT rfl -- Op.binOp BinOp.shr 73 t77 (const (3:u64)) 63
          · intro w' hT'
            simp only [List.getElem_toArray, List.getElem_cons_zero, List.getElem_cons_succ]
            go_wp2_with fail
            first | exact ⟨rfl, rfl, rfl⟩ | rfl
          apply wpT_read (i := 16) rfl hT rfl -- Op.binOp BinOp.xor 73 t73 t78 73
          · intro w' hT'
            simp only [List.getElem_toArray, List.getElem_cons_zero, List.getElem_cons_succ]
            go_wp2_with fail
            first | exact ⟨rfl, rfl, rfl⟩ | rfl
          apply wpT_read (i := 17) rfl hT rfl -- Op.assign t79
          · intro w' hT'
            simp only [List.getElem_toArray, List.getElem_cons_zero, List.getElem_cons_succ]
            go_wp2_with fail
            first | exact ⟨rfl, rfl, rfl⟩ | rfl
          refine wpT_end ?_
          try dsimp only

          replace hS := hT
          clear hT
          try go_wp2_with fail
          refine wp_region_L (T := fun w' => RS w w' g2 g4 g5 g6 h ks ws) (by kernel_rfl) (by kernel_rfl) hS.drew ?_
          intro wa hT
          show wpT _ _ _ _ [0, 1, 2, 3, 4, 5, 6, 7, 8, 9, 10, 11, 12, 13, 14, 15, 16, 17] _ _
          apply wpT_read (i := 0) rfl hT rfl -- Op.move t8
          · intro w' hT'
            simp only [List.getElem_toArray, List.getElem_cons_zero, List.getElem_cons_succ]
            go_wp2_with fail
            first | exact ⟨rfl, rfl, rfl⟩ | rfl
          apply wpT_read (i := 1) rfl hT rfl -- Op.binOp BinOp.sub 3 t80 (const (2:i64)) 3
          · intro w' hT'
            simp only [List.getElem_toArray, List.getElem_cons_zero, List.getElem_cons_succ]
            go_wp2_with fail
            first | exact ⟨rfl, rfl, rfl⟩ | rfl
          apply wpT_read (i := 2) rfl hT rfl -- Op.indexAddr 84 t6 t81
          · intro w' hT'
            simp only [List.getElem_toArray, List.getElem_cons_zero, List.getElem_cons_succ]
            go_wp2_with fail
            first | exact ⟨rfl, rfl, rfl⟩ | rfl
          apply wpT_read (i := 3) rfl hT rfl -- Op.load 73 t82
          · intro w' hT'
            simp only [List.getElem_toArray, List.getElem_cons_zero, List.getElem_cons_succ]
            have k2 := C2.out hT'
            go_wp2_with fail
            first | exact ⟨rfl, rfl, rfl⟩ | rfl
          refine wpT_actL (i := 4) rfl rfl ?_ -- Op.call { value (Operand.func 45), args := #[t83, const (17:u64)], a
          simp only [List.getElem_toArray, List.getElem_cons_zero, List.getElem_cons_succ]
          go_wp2_with (first
            | (go_at_call 45; refine (rotr17_calls x2 _ r2 s2).mono ?_; rintro e w1 ⟨rfl, rfl⟩)
            | fail)
          refine OnT.mk rfl ?_ ?_
          · exact hT
          clear hT
          intro w11_4 hT
          apply wpT_read (i := 5) rfl hT rfl -- Op.move t8
          · intro w' hT'
            simp only [List.getElem_toArray, List.getElem_cons_zero, List.getElem_cons_succ]
            go_wp2_with fail
            first | exact ⟨rfl, rfl, rfl⟩ | rfl
          apply wpT_read (i := 6) rfl hT rfl -- Op.binOp BinOp.sub 3 t85 (const (2:i64)) 3
          · intro w' hT'
            simp only [List.getElem_toArray, List.getElem_cons_zero, List.getElem_cons_succ]
            go_wp2_with fail
            first | exact ⟨rfl, rfl, rfl⟩ | rfl
          apply wpT_read (i := 7) rfl hT rfl -- Op.indexAddr 84 t6 t86
          · intro w' hT'
            simp only [List.getElem_toArray, List.getElem_cons_zero, List.getElem_cons_succ]
            go_wp2_with fail
            first | exact ⟨rfl, rfl, rfl⟩ | rfl
          apply wpT_read (i := 8) rfl hT rfl -- Op.load 73 t87
          · intro w' hT'
            simp only [List.getElem_toArray, List.getElem_cons_zero, List.getElem_cons_succ]
            have k2 := C2.out hT'
            go_wp2_with fail
            first | exact ⟨rfl, rfl, rfl⟩ | rfl
          refine wpT_actL (i := 9) rfl rfl ?_ -- Op.call { value (Operand.func 45), args := #[t88, const (19:u64)], a
          simp only [List.getElem_toArray, List.getElem_cons_zero, List.getElem_cons_succ]
          go_wp2_with (first
            | (go_at_call 45; refine (rotr19_calls x2 _ r2 s2).mono ?_; rintro e w1 ⟨rfl, rfl⟩)
            | fail)
          refine OnT.mk rfl ?_ ?_
          · exact hT
          clear hT
          intro w11_9 hT
          apply wpT_read (i := 10) rfl hT rfl -- Op.binOp BinOp.xor 73 t84 t89 73
          · intro w' hT'
            simp only [List.getElem_toArray, List.getElem_cons_zero, List.getElem_cons_succ]
            go_wp2_with fail
            first | exact ⟨rfl, rfl, rfl⟩ | rfl
          apply wpT_read (i := 11) rfl hT rfl -- Op.move t8
          · intro w' hT'
            simp only [List.getElem_toArray, List.getElem_cons_zero, List.getElem_cons_succ]
            go_wp2_with fail
            first | exact ⟨rfl, rfl, rfl⟩ | rfl
          apply wpT_read (i := 12) rfl hT rfl -- Op.binOp BinOp.sub 3 t91 (const (2:i64)) 3
          · intro w' hT'
            simp only [List.getElem_toArray, List.getElem_cons_zero, List.getElem_cons_succ]
            go_wp2_with fail
            first | exact ⟨rfl, rfl, rfl⟩ | rfl
          apply wpT_read (i := 13) rfl hT rfl -- Op.indexAddr 84 t6 t92
          · intro w' hT'
            simp only [List.getElem_toArray, List.getElem_cons_zero, List.getElem_cons_succ]
            go_wp2_with fail
            first | exact ⟨rfl, rfl, rfl⟩ | rfl
          apply wpT_read (i := 14) rfl hT rfl -- Op.load 73 t93
          · intro w' hT'
            simp only [List.getElem_toArray, List.getElem_cons_zero, List.getElem_cons_succ]
            have k2 := C2.out hT'
            go_wp2_with fail
            first | exact ⟨rfl, rfl, rfl⟩ | rfl
          apply wpT_read (i := 15) rfl hT rfl -- Op.binOp BinOp.shr 73 t94 (const (10:u64)) 63
          · intro w' hT'
            simp only [List.getElem_toArray, List.getElem_cons_zero, List.getElem_cons_succ]
            go_wp2_with fail
            first | exact ⟨rfl, rfl, rfl⟩ | rfl
          apply wpT_read (i := 16) rfl hT rfl -- Op.binOp BinOp.xor 73 t90 t95 73
          · intro w' hT'
            simp only [List.getElem_toArray, List.getElem_cons_zero, List.getElem_cons_succ]
            go_wp2_with fail
            first | exact ⟨rfl, rfl, rfl⟩ | rfl
          apply wpT_read (i := 17) rfl hT rfl -- Op.assign t96
          · intro w' hT'
            simp only [List.getElem_toArray, List.getElem_cons_zero, List.getElem_cons_succ]
            go_wp2_with fail
            first | exact ⟨rfl, rfl, rfl⟩ | rfl
          refine wpT_end ?_
          try dsimp only

          replace hS := hT
          clear hT
          try go_wp2_with fail
          refine wp_region_L (T := fun w' => RS w w' g2 g4 g5 g6 h ks ws) (by kernel_rfl) (by kernel_rfl) hS.drew ?_
          intro wa hT
          show wpT _ _ _ _ [0, 1, 2, 3, 4, 5, 6, 7, 8, 9, 10, 11, 12, 13, 14, 15] _ _
          apply wpT_read (i := 0) rfl hT rfl -- Op.move t8
          · intro w' hT'
            simp only [List.getElem_toArray, List.getElem_cons_zero, List.getElem_cons_succ]
            go_wp2_with fail
            first | exact ⟨rfl, rfl, rfl⟩ | rfl
          apply wpT_read (i := 1) rfl hT rfl -- Op.move t8
          · intro w' hT'
            simp only [List.getElem_toArray, List.getElem_cons_zero, List.getElem_cons_succ]
            go_wp2_with fail
            first | exact ⟨rfl, rfl, rfl⟩ | rfl
          apply wpT_read (i := 2) rfl hT rfl -- Op.binOp BinOp.sub 3 t98 (const (16:i64)) 3
          · intro w' hT'
            simp only [List.getElem_toArray, List.getElem_cons_zero, List.getElem_cons_succ]
            go_wp2_with fail
            first | exact ⟨rfl, rfl, rfl⟩ | rfl
          apply wpT_read (i := 3) rfl hT rfl -- Op.indexAddr 84 t6 t99
          · intro w' hT'
            simp only [List.getElem_toArray, List.getElem_cons_zero, List.getElem_cons_succ]
            go_wp2_with fail
            first | exact ⟨rfl, rfl, rfl⟩ | rfl
          apply wpT_read (i := 4) rfl hT rfl -- Op.load 73 t100
          · intro w' hT'
            simp only [List.getElem_toArray, List.getElem_cons_zero, List.getElem_cons_succ]
            have k16 := C16.out hT'
            have k7 := C7.out hT'
            go_wp2_with fail
            first | exact ⟨rfl, rfl, rfl⟩ | rfl
          apply wpT_read (i := 5) rfl hT rfl -- Op.move t9
          · intro w' hT'
            simp only [List.getElem_toArray, List.getElem_cons_zero, List.getElem_cons_succ]
            go_wp2_with fail
            first | exact ⟨rfl, rfl, rfl⟩ | rfl
          apply wpT_read (i := 6) rfl hT rfl -- Op.binOp BinOp.add 73 t101 t102 73
          · intro w' hT'
            simp only [List.getElem_toArray, List.getElem_cons_zero, List.getElem_cons_succ]
            go_wp2_with fail
            first | exact ⟨rfl, rfl, rfl⟩ | rfl
          apply wpT_read (i := 7) rfl hT rfl -- Op.move t8
          · intro w' hT'
            simp only [List.getElem_toArray, List.getElem_cons_zero, List.getElem_cons_succ]
            go_wp2_with fail
            first | exact ⟨rfl, rfl, rfl⟩ | rfl
          apply wpT_read (i := 8) rfl hT rfl -- Op.binOp BinOp.sub 3 t104 (const (7:i64)) 3
          · intro w' hT'
            simp only [List.getElem_toArray, List.getElem_cons_zero, List.getElem_cons_succ]
            go_wp2_with fail
            first | exact ⟨rfl, rfl, rfl⟩ | rfl
          apply wpT_read (i := 9) rfl hT rfl -- Op.indexAddr 84 t6 t105
          · intro w' hT'
            simp only [List.getElem_toArray, List.getElem_cons_zero, List.getElem_cons_succ]
            go_wp2_with fail
            first | exact ⟨rfl, rfl, rfl⟩ | rfl
          apply wpT_read (i := 10) rfl hT rfl -- Op.load 73 t106
          · intro w' hT'
            simp only [List.getElem_toArray, List.getElem_cons_zero, List.getElem_cons_succ]
            have k16 := C16.out hT'
            have k7 := C7.out hT'
            go_wp2_with fail
            first | exact ⟨rfl, rfl, rfl⟩ | rfl
          apply wpT_read (i := 11) rfl hT rfl -- Op.binOp BinOp.add 73 t103 t107 73
          · intro w' hT'
            simp only [List.getElem_toArray, List.getElem_cons_zero, List.getElem_cons_succ]
            go_wp2_with fail
            first | exact ⟨rfl, rfl, rfl⟩ | rfl
          apply wpT_read (i := 12) rfl hT rfl -- Op.move t10
          · intro w' hT'
            simp only [List.getElem_toArray, List.getElem_cons_zero, List.getElem_cons_succ]
            go_wp2_with fail
            first | exact ⟨rfl, rfl, rfl⟩ | rfl
          apply wpT_read (i := 13) rfl hT rfl -- Op.binOp BinOp.add 73 t108 t109 73
          · intro w' hT'
            simp only [List.getElem_toArray, List.getElem_cons_zero, List.getElem_cons_succ]
            go_wp2_with fail
            first | exact ⟨rfl, rfl, rfl⟩ | rfl
          apply wpT_read (i := 14) rfl hT rfl -- Op.indexAddr 84 t6 t97
          · intro w' hT'
            simp only [List.getElem_toArray, List.getElem_cons_zero, List.getElem_cons_succ]
            go_wp2_with fail
            first | exact ⟨rfl, rfl, rfl⟩ | rfl
          refine wpT_totL (i := 15) rfl rfl (by kernel_rfl) ?_ -- Op.store 73 t111 t110
          simp only [List.getElem_toArray, List.getElem_cons_zero, List.getElem_cons_succ]
          have fz := hT.frozen 0 rfl q
          have cc := hT.cellI 0 rfl q HQ.out
          go_wp2_with fail
          refine OnX.mk (fun w' => RS w w' g2 g4 g5 g6 h ks (schedB b (p16 + 1))) rfl ?_ ?_
          · rw [HX.out, HW.out]; exact hT.setI 0 rfl q _
          clear hT
          clear fz cc
          intro w12_15 hT
          refine wpT_end ?_
          try dsimp only

          go_wp2_with fail
          go_roundg (gk - 1)
          case measure => have := hq.out; omega
          case rel => exact ⟨q + 1, by omega, by omega, by go_num, hid (by have := hq.out; omega), by rw [HN.out]; exact hT⟩
        · obtain rfl : q = 64 := by omega
          clear hlt hq1 hq2 hq
          replace hS : RS w wr g2 g4 g5 g6 h ks (sched b) := hS
          obtain ⟨ws, hws⟩ : ∃ ws, Hd (sched b = ws) := ⟨_, hid rfl⟩
          have HLs : Hd (ws.length = 64) := hid (by rw [← hws.out]; exact schedB_length b 48)
          rw [hws.out] at hS
          go_wp2_with (first
            | (refine hs_loadW hS 3 rfl rfl 74 _ rfl rfl 8 infoW8 (by simp [HL.out]) _ arrW8 rfl _ rfl ?_)
            | (refine alloc_blk rfl 74 rfl _ rfl (ints .u32 (List.replicate 8 0)) zeroW8 ?_; intro gv wv hga hba hBa hsa; replace hS := hS.pushBlk hBa hba hga; clear hga hba hBa hsa)
            | (refine hs_storeW hS 0 rfl rfl 74 _ _ rfl rfl (ints .u32 h) rfl (ints_one' _ _) _ infoW8 (by simp [HL.out]) (by simp) _ rfl ?_; clear hS; intro wb hS)
            | fail)
          replace hS : RV w wb g2 g4 g5 g6 gv h ks ws (roundsS b h 0) := hS
          go_loopg [12, 13, 14, 15, 16, 17] 65 (fun kq v12 v13 v14 v15 v16 v17 wr => ∃ i : Nat, i ≤ 64 ∧ v12 = .int .i64 i ∧ Hd (kq + i = 65) ∧ RV w wr g2 g4 g5 g6 gv h ks ws (roundsS b h i))
          case atStart => exact ⟨0, by omega, rfl, hid (by omega), hS⟩
          case round =>
            clear hS
            obtain ⟨i, hi, rfl, hq, hS⟩ := hrel
            by_cases hlt : i < 64
            · have hlt2 : (i : Int) < 64 := by omega
              have HX := hid (roundsS_succ b h i)
              rw [hws.out] at HX
              have R := roundsS_W32 b h hh i
              have HL8 := roundsS_length b h HL.out i
              generalize roundsS b h i = ss at *
              obtain ⟨x0, x1, x2, x3, x4, x5, x6, x7, rfl⟩ := eight HL8
              obtain ⟨⟨r0, s0⟩, ⟨r1, s1⟩, ⟨r2, s2⟩, ⟨r3, s3⟩, ⟨r4, s4⟩, ⟨r5, s5⟩, ⟨r6, s6⟩, ⟨r7, s7⟩⟩ : W32 x0 ∧ W32 x1 ∧ W32 x2 ∧ W32 x3 ∧ W32 x4 ∧ W32 x5 ∧ W32 x6 ∧ W32 x7 := by
                refine ⟨R _ ?_, R _ ?_, R _ ?_, R _ ?_, R _ ?_, R _ ?_, R _ ?_, R _ ?_⟩ <;> simp
              clear R HL8
              obtain ⟨ki, hki⟩ : ∃ k, Hd (rd ks i = k) := ⟨_, hid rfl⟩
              obtain ⟨wi, hwi⟩ : ∃ k, Hd (rd ws i = k) := ⟨_, hid rfl⟩
              obtain ⟨rk, sk⟩ : W32 ki := by rw [← hki.out, ← hks.out]; exact shaK_W32 i
              obtain ⟨rw_, sw_⟩ : W32 wi := by rw [← hwi.out, ← hws.out]; exact rd_all (schedB_W32 b 48) zero_W32 _
              have CK : Hd (∀ {w'}, RV w w' g2 g4 g5 g6 gv h ks ws [x0, x1, x2, x3, x4, x5, x6, x7] → w'.cell? ⟨g5, i, none⟩ = some (.int .u32 ki)) := hid fun h => by rw [h.cellI 2 rfl i (by rw [HLk.out]; exact hlt), hki.out]
              have CW : Hd (∀ {w'}, RV w w' g2 g4 g5 g6 gv h ks ws [x0, x1, x2, x3, x4, x5, x6, x7] → w'.cell? ⟨g6, i, none⟩ = some (.int .u32 wi)) := hid fun h => by rw [h.cellI 1 rfl i (by rw [HLs.out]; exact hlt), hwi.out]
              have HST : Hd (stepS ws [x0, x1, x2, x3, x4, x5, x6, x7] i = [((x7 + Sig 6 11 25 x4 + bits .xor .u32 (bits .and .u32 x4 x5) (bits .and .u32 (bits .xor .u32 IntKind.u32.max x4) x6) + ki + wi) + Sig 2 13 22 x0 + bits .xor .u32 (bits .xor .u32 (bits .and .u32 x0 x1) (bits .and .u32 x0 x2)) (bits .and .u32 x1 x2)) % 4294967296, x0, x1, x2, (x3 + (x7 + Sig 6 11 25 x4 + bits .xor .u32 (bits .and .u32 x4 x5) (bits .and .u32 (bits .xor .u32 IntKind.u32.max x4) x6) + ki + wi)) % 4294967296, x4, x5, x6]) := hid (by unfold stepS oneS twoS; rw [hks.out, hki.out, hwi.out, ← Int.add_assoc]; rfl)
              try go_wp2_with fail
              refine wp_region_L (T := fun w' => RV w w' g2 g4 g5 g6 gv h ks ws [x0, x1, x2, x3, x4, x5, x6, x7]) (by kernel_rfl) (by kernel_rfl) hS.drew ?_
              intro wa hT
              show wpT _ _ _ _ [0, 1, 2, 3, 4, 5, 6, 7, 8, 9, 10, 11] _ _
              apply wpT_read (i := 0) rfl hT rfl -- Op.indexAddr 74 t11 (const (4:i64))
              · intro w' hT'
                simp only [List.getElem_toArray, List.getElem_cons_zero, List.getElem_cons_succ]
                go_wp2_with fail
                first | exact ⟨rfl, rfl, rfl⟩ | rfl
              apply wpT_read (i := 1) rfl hT rfl -- Op.load 73 t117
              · intro w' hT'
                simp only [List.getElem_toArray, List.getElem_cons_zero, List.getElem_cons_succ]
                have cx4 : w'.cell? ⟨gv, 4, none⟩ = some (.int .u32 x4) := hT'.cell 0 rfl 4
                go_wp2_with fail
                first | exact ⟨rfl, rfl, rfl⟩ | rfl
              refine wpT_actL (i := 2) rfl rfl ?_ -- Op.call { value (Operand.func 45), args := #[t118, const (6:u64)], a
              simp only [List.getElem_toArray, List.getElem_cons_zero, List.getElem_cons_succ]
              go_wp2_with (first
                | (go_at_call 45; refine (rotr6_calls x4 _ r4 s4).mono ?_; rintro e w1 ⟨rfl, rfl⟩)
                | fail)
              refine OnT.mk rfl ?_ ?_
              · exact hT
              clear hT
              intro w17_2 hT
              apply wpT_read (i := 3) rfl hT rfl -- Op.indexAddr 74 t11 (const (4:i64))
              · intro w' hT'
                simp only [List.getElem_toArray, List.getElem_cons_zero, List.getElem_cons_succ]
                go_wp2_with fail
                first | exact ⟨rfl, rfl, rfl⟩ | rfl
              apply wpT_read (i := 4) rfl hT rfl -- Op.load 73 t120
              · intro w' hT'
                simp only [List.getElem_toArray, List.getElem_cons_zero, List.getElem_cons_succ]
                have cx4 : w'.cell? ⟨gv, 4, none⟩ = some (.int .u32 x4) := hT'.cell 0 rfl 4
                go_wp2_with fail
                first | exact ⟨rfl, rfl, rfl⟩ | rfl
              refine wpT_actL (i := 5) rfl rfl ?_ -- Op.call { value (Operand.func 45), args := #[t121, const (11:u64)], 
              simp only [List.getElem_toArray, List.getElem_cons_zero, List.getElem_cons_succ]
              go_wp2_with (first
                | (go_at_call 45; refine (rotr11_calls x4 _ r4 s4).mono ?_; rintro e w1 ⟨rfl, rfl⟩)
                | fail)
              refine OnT.mk rfl ?_ ?_
              · exact hT
              clear hT
              intro w17_5 hT
              apply wpT_read (i := 6) rfl hT rfl -- Op.binOp BinOp.xor 73 t119 t122 73
              · intro w' hT'
                simp only [List.getElem_toArray, List.getElem_cons_zero, List.getElem_cons_succ]
                go_wp2_with fail
                first | exact ⟨rfl, rfl, rfl⟩ | rfl
              apply wpT_read (i := 7) rfl hT rfl -- Op.indexAddr 74 t11 (const (4:i64))
              · intro w' hT'
                simp only [List.getElem_toArray, List.getElem_cons_zero, List.getElem_cons_succ]
                go_wp2_with fail
                first | exact ⟨rfl, rfl, rfl⟩ | rfl
              apply wpT_read (i := 8) rfl hT rfl -- Op.load 73 t124
              · intro w' hT'
                simp only [List.getElem_toArray, List.getElem_cons_zero, List.getElem_cons_succ]
                have cx4 : w'.cell? ⟨gv, 4, none⟩ = some (.int .u32 x4) := hT'.cell 0 rfl 4
                go_wp2_with fail
                first | exact ⟨rfl, rfl, rfl⟩ | rfl
              refine wpT_actL (i := 9) rfl rfl ?_ -- Op.call { value (Operand.func 45), args := #[t125, const (25:u64)], 
              simp only [List.getElem_toArray, List.getElem_cons_zero, List.getElem_cons_succ]
              go_wp2_with (first
                | (go_at_call 45; refine (rotr25_calls x4 _ r4 s4).mono ?_; rintro e w1 ⟨rfl, rfl⟩)
                | fail)
              refine OnT.mk rfl ?_ ?_
              · exact hT
              clear hT
              intro wn hT
              apply wpT_read (i := 10) rfl hT rfl -- Op.binOp BinOp.xor 73 t123 t126 73
              · intro w' hT'
                simp only [List.getElem_toArray, List.getElem_cons_zero, List.getElem_cons_succ]
                go_wp2_with fail
                first | exact ⟨rfl, rfl, rfl⟩ | rfl
              apply wpT_read (i := 11) rfl hT rfl -- Op.assign t127
              · intro w' hT'
                simp only [List.getElem_toArray, List.getElem_cons_zero, List.getElem_cons_succ]
                go_wp2_with fail
                first | exact ⟨rfl, rfl, rfl⟩ | rfl
              refine wpT_end ?_
              try dsimp only

              replace hS := hT
              clear hT
              have cx4 : wn.cell? ⟨gv, 4, none⟩ = some (.int .u32 x4) := hS.cell 0 rfl 4
              have cx5 : wn.cell? ⟨gv, 5, none⟩ = some (.int .u32 x5) := hS.cell 0 rfl 5
              have cx6 : wn.cell? ⟨gv, 6, none⟩ = some (.int .u32 x6) := hS.cell 0 rfl 6
              have hsg : IntKind.u32.signed = false := rfl
              go_wp2_with fail
              clear hsg
              clear cx4 cx5 cx6
              try go_wp2_with fail
              refine wp_region_L (T := fun w' => RV w w' g2 g4 g5 g6 gv h ks ws [x0, x1, x2, x3, x4, x5, x6, x7]) (by kernel_rfl) (by kernel_rfl) hS.drew ?_
              intro wa hT
              show wpT _ _ _ _ [0, 1, 2, 3, 4, 5, 6, 7, 8, 9, 10, 11, 12, 13, 14] _ _
              apply wpT_read (i := 0) rfl hT rfl -- Op.indexAddr 74 t11 (const (7:i64))
              · intro w' hT'
                simp only [List.getElem_toArray, List.getElem_cons_zero, List.getElem_cons_succ]
                go_wp2_with fail
                first | exact ⟨rfl, rfl, rfl⟩ | rfl
              apply wpT_read (i := 1) rfl hT rfl -- Op.load 73 t140
              · intro w' hT'
                simp only [List.getElem_toArray, List.getElem_cons_zero, List.getElem_cons_succ]
                have cx7 : w'.cell? ⟨gv, 7, none⟩ = some (.int .u32 x7) := hT'.cell 0 rfl 7
                have ck := CK.out hT'
                have cw := CW.out hT'
                go_wp2_with fail
                first | exact ⟨rfl, rfl, rfl⟩ | rfl
              apply wpT_read (i := 2) rfl hT rfl -- Op.move t13
              · intro w' hT'
                simp only [List.getElem_toArray, List.getElem_cons_zero, List.getElem_cons_succ]
                go_wp2_with fail
                first | exact ⟨rfl, rfl, rfl⟩ | rfl
              apply wpT_read (i := 3) rfl hT rfl -- Op.binOp BinOp.add 73 t141 t142 73
              · intro w' hT'
                simp only [List.getElem_toArray, List.getElem_cons_zero, List.getElem_cons_succ]
                go_wp2_with fail
                first | exact ⟨rfl, rfl, rfl⟩ | rfl
              apply wpT_read (i := 4) rfl hT rfl -- Op.move t14
              · intro w' hT'
                simp only [List.getElem_toArray, List.getElem_cons_zero, List.getElem_cons_succ]
                go_wp2_with fail
                first | exact ⟨rfl, rfl, rfl⟩ | rfl
              apply wpT_read (i := 5) rfl hT rfl -- Op.binOp BinOp.add 73 t143 t144 73
              · intro w' hT'
                simp only [List.getElem_toArray, List.getElem_cons_zero, List.getElem_cons_succ]
                go_wp2_with fail
                first | exact ⟨rfl, rfl, rfl⟩ | rfl
              apply wpT_read (i := 6) rfl hT rfl -- Op.move t12
              · intro w' hT'
                simp only [List.getElem_toArray, List.getElem_cons_zero, List.getElem_cons_succ]
                go_wp2_with fail
                first | exact ⟨rfl, rfl, rfl⟩ | rfl
              apply wpT_read (i := 7) rfl hT rfl -- Op.indexAddr 84 t5 t146
              · intro w' hT'
                simp only [List.getElem_toArray, List.getElem_cons_zero, List.getElem_cons_succ]
                go_wp2_with fail
                first | exact ⟨rfl, rfl, rfl⟩ | rfl
              apply wpT_read (i := 8) rfl hT rfl -- Op.load 73 t147
              · intro w' hT'
                simp only [List.getElem_toArray, List.getElem_cons_zero, List.getElem_cons_succ]
                have cx7 : w'.cell? ⟨gv, 7, none⟩ = some (.int .u32 x7) := hT'.cell 0 rfl 7
                have ck := CK.out hT'
                have cw := CW.out hT'
                go_wp2_with fail
                first | exact ⟨rfl, rfl, rfl⟩ | rfl
              apply wpT_read (i := 9) rfl hT rfl -- Op.binOp BinOp.add 73 t145 t148 73
              · intro w' hT'
                simp only [List.getElem_toArray, List.getElem_cons_zero, List.getElem_cons_succ]
                go_wp2_with fail
                first | exact ⟨rfl, rfl, rfl⟩ | rfl
              apply wpT_read (i := 10) rfl hT rfl -- Op.move t12
              · intro w' hT'
                simp only [List.getElem_toArray, List.getElem_cons_zero, List.getElem_cons_succ]
                go_wp2_with fail
                first | exact ⟨rfl, rfl, rfl⟩ | rfl
              apply wpT_read (i := 11) rfl hT rfl -- Op.indexAddr 84 t6 t150
              · intro w' hT'
                simp only [List.getElem_toArray, List.getElem_cons_zero, List.getElem_cons_succ]
                go_wp2_with fail
                first | exact ⟨rfl, rfl, rfl⟩ | rfl
              apply wpT_read (i := 12) rfl hT rfl -- Op.load 73 t151
              · intro w' hT'
                simp only [List.getElem_toArray, List.getElem_cons_zero, List.getElem_cons_succ]
                have cx7 : w'.cell? ⟨gv, 7, none⟩ = some (.int .u32 x7) := hT'.cell 0 rfl 7
                have ck := CK.out hT'
                have cw := CW.out hT'
                go_wp2_with fail
                first | exact ⟨rfl, rfl, rfl⟩ | rfl
              apply wpT_read (i := 13) rfl hT rfl -- Op.binOp BinOp.add 73 t149 t152 73
              · intro w' hT'
                simp only [List.getElem_toArray, List.getElem_cons_zero, List.getElem_cons_succ]
                go_wp2_with fail
                first | exact ⟨rfl, rfl, rfl⟩ | rfl
              apply wpT_read (i := 14) rfl hT rfl -- Op.assign t153
              · intro w' hT'
                simp only [List.getElem_toArray, List.getElem_cons_zero, List.getElem_cons_succ]
                go_wp2_with fail
                first | exact ⟨rfl, rfl, rfl⟩ | rfl
              refine wpT_end ?_
              try dsimp only

              replace hS := hT
              clear hT
              try go_wp2_with fail
              refine wp_region_L (T := fun w' => RV w w' g2 g4 g5 g6 gv h ks ws [x0, x1, x2, x3, x4, x5, x6, x7]) (by kernel_rfl) (by kernel_rfl) hS.drew ?_
              intro wa hT
              show wpT _ _ _ _ [0, 1, 2, 3, 4, 5, 6, 7, 8, 9, 10, 11] _ _
              apply wpT_read (i := 0) rfl hT rfl -- Op.indexAddr 74 t11 (const (0:i64))
              · intro w' hT'
                simp only [List.getElem_toArray, List.getElem_cons_zero, List.getElem_cons_succ]
                go_wp2_with fail
                first | exact ⟨rfl, rfl, rfl⟩ | rfl
              apply wpT_read (i := 1) rfl hT rfl -- Op.load 73 t154
              · intro w' hT'
                simp only [List.getElem_toArray, List.getElem_cons_zero, List.getElem_cons_succ]
                have cx0 : w'.cell? ⟨gv, 0, none⟩ = some (.int .u32 x0) := hT'.cell 0 rfl 0
                go_wp2_with fail
                first | exact ⟨rfl, rfl, rfl⟩ | rfl
              refine wpT_actL (i := 2) rfl rfl ?_ -- Op.call { value (Operand.func 45), args := #[t155, const (2:u64)], a
              simp only [List.getElem_toArray, List.getElem_cons_zero, List.getElem_cons_succ]
              go_wp2_with (first
                | (go_at_call 45; refine (rotr2_calls x0 _ r0 s0).mono ?_; rintro e w1 ⟨rfl, rfl⟩)
                | fail)
              refine OnT.mk rfl ?_ ?_
              · exact hT
              clear hT
              intro w20_2 hT
              apply wpT_read (i := 3) rfl hT rfl -- Op.indexAddr 74 t11 (const (0:i64))
              · intro w' hT'
                simp only [List.getElem_toArray, List.getElem_cons_zero, List.getElem_cons_succ]
                go_wp2_with fail
                first | exact ⟨rfl, rfl, rfl⟩ | rfl
              apply wpT_read (i := 4) rfl hT rfl -- Op.load 73 t157
              · intro w' hT'
                simp only [List.getElem_toArray, List.getElem_cons_zero, List.getElem_cons_succ]
                have cx0 : w'.cell? ⟨gv, 0, none⟩ = some (.int .u32 x0) := hT'.cell 0 rfl 0
                go_wp2_with fail
                first | exact ⟨rfl, rfl, rfl⟩ | rfl
              refine wpT_actL (i := 5) rfl rfl ?_ -- Op.call { value (Operand.func 45), args := #[t158, const (13:u64)], 
              simp only [List.getElem_toArray, List.getElem_cons_zero, List.getElem_cons_succ]
              go_wp2_with (first
                | (go_at_call 45; refine (rotr13_calls x0 _ r0 s0).mono ?_; rintro e w1 ⟨rfl, rfl⟩)
                | fail)
              refine OnT.mk rfl ?_ ?_
              · exact hT
              clear hT
              intro w20_5 hT
              apply wpT_read (i := 6) rfl hT rfl -- Op.binOp BinOp.xor 73 t156 t159 73
              · intro w' hT'
                simp only [List.getElem_toArray, List.getElem_cons_zero, List.getElem_cons_succ]
                go_wp2_with fail
                first | exact ⟨rfl, rfl, rfl⟩ | rfl
              apply wpT_read (i := 7) rfl hT rfl -- Op.indexAddr 74 t11 (const (0:i64))
              · intro w' hT'
                simp only [List.getElem_toArray, List.getElem_cons_zero, List.getElem_cons_succ]
                go_wp2_with fail
                first | exact ⟨rfl, rfl, rfl⟩ | rfl
              apply wpT_read (i := 8) rfl hT rfl -- Op.load 73 t161
              · intro w' hT'
                simp only [List.getElem_toArray, List.getElem_cons_zero, List.getElem_cons_succ]
                have cx0 : w'.cell? ⟨gv, 0, none⟩ = some (.int .u32 x0) := hT'.cell 0 rfl 0
                go_wp2_with fail
                first | exact ⟨rfl, rfl, rfl⟩ | rfl
              refine wpT_actL (i := 9) rfl rfl ?_ -- Op.call { value (Operand.func 45), args := #[t162, const (22:u64)], 
              simp only [List.getElem_toArray, List.getElem_cons_zero, List.getElem_cons_succ]
              go_wp2_with (first
                | (go_at_call 45; refine (rotr22_calls x0 _ r0 s0).mono ?_; rintro e w1 ⟨rfl, rfl⟩)
                | fail)
              refine OnT.mk rfl ?_ ?_
              · exact hT
              clear hT
              intro wm hT
              apply wpT_read (i := 10) rfl hT rfl -- Op.binOp BinOp.xor 73 t160 t163 73
              · intro w' hT'
                simp only [List.getElem_toArray, List.getElem_cons_zero, List.getElem_cons_succ]
                go_wp2_with fail
                first | exact ⟨rfl, rfl, rfl⟩ | rfl
              apply wpT_read (i := 11) rfl hT rfl -- Op.assign t164
              · intro w' hT'
                simp only [List.getElem_toArray, List.getElem_cons_zero, List.getElem_cons_succ]
                go_wp2_with fail
                first | exact ⟨rfl, rfl, rfl⟩ | rfl
              refine wpT_end ?_
              try dsimp only

              replace hS := hT
              clear hT
              have cx0 : wm.cell? ⟨gv, 0, none⟩ = some (.int .u32 x0) := hS.cell 0 rfl 0
              have cx1 : wm.cell? ⟨gv, 1, none⟩ = some (.int .u32 x1) := hS.cell 0 rfl 1
              have cx2 : wm.cell? ⟨gv, 2, none⟩ = some (.int .u32 x2) := hS.cell 0 rfl 2
              have cx3 : wm.cell? ⟨gv, 3, none⟩ = some (.int .u32 x3) := hS.cell 0 rfl 3
              have cx4 : wm.cell? ⟨gv, 4, none⟩ = some (.int .u32 x4) := hS.cell 0 rfl 4
              have cx5 : wm.cell? ⟨gv, 5, none⟩ = some (.int .u32 x5) := hS.cell 0 rfl 5
              have cx6 : wm.cell? ⟨gv, 6, none⟩ = some (.int .u32 x6) := hS.cell 0 rfl 6
              go_wp2_with (first
                | (refine hs_storeW hS 0 rfl rfl 74 _ _ rfl rfl (ints .u32 (stepS ws [x0, x1, x2, x3, x4, x5, x6, x7] i)) (by rw [HST.out]; rfl) (ints_one' _ _) _ infoW8 (by rfl) (by rfl) _ rfl ?_
                   rw [← HX.out]; clear hS; intro wy hS)
                | fail)
              go_roundg (gk - 1)
              case measure => have := hq.out; omega
              case rel => exact ⟨i + 1, by omega, by go_num, hid (by have := hq.out; omega), hS⟩
            · obtain rfl : i = 64 := by omega
              have R := roundsS_W32 b h hh 64
              have HL8 := hid (roundsS_length b h HL.out 64)
              have HF : Hd (topS h (roundsS b h 64) 8 = shaBlock h b) := hid rfl
              generalize roundsS b h 64 = ss at *
              replace hS : RV w wr g2 g4 g5 g6 gv (topS h ss 0) ks ws ss := hS
              clear hlt hi hq
              go_wp2_with fail
              go_loopg [18] 9 (fun kq v18 wr => ∃ i : Nat, i ≤ 8 ∧ v18 = .int .i64 i ∧ Hd (kq + i = 9) ∧ RV w wr g2 g4 g5 g6 gv (topS h ss i) ks ws ss)
              case atStart => exact ⟨0, by omega, rfl, hid (by omega), hS⟩
              case round =>
                clear hS
                obtain ⟨i, hi, rfl, hq, hS⟩ := hrel
                by_cases hlt : i < 8
                · have hlt2 : (i : Int) < 8 := by omega
                  have HX := hid (topS_succ h ss i)
                  have HTL : Hd ((topS h ss i).length = 8) := hid (by simp [HL.out])
                  have e1 := topS_rd h ss i i (Nat.le_refl _)
                  generalize topS h ss i = ts at *
                  obtain ⟨x, hx⟩ : ∃ x, rd h i = x := ⟨_, rfl⟩
                  obtain ⟨y, hy⟩ : ∃ y, rd ss i = y := ⟨_, rfl⟩
                  obtain ⟨rx, sx⟩ : W32 x := hx ▸ rd_all hh zero_W32 _
                  obtain ⟨ry, sy⟩ : W32 y := hy ▸ rd_all R zero_W32 _
                  rw [hx] at e1
                  rw [hx, hy] at HX
                  have C1 : Hd (∀ {w'}, RV w w' g2 g4 g5 g6 gv ts ks ws ss → w'.cell? ⟨g2, i, none⟩ = some (.int .u32 x)) := hid fun h => by rw [h.cellI 4 rfl i (by rw [HTL.out]; exact hlt), e1]
                  have C2 : Hd (∀ {w'}, RV w w' g2 g4 g5 g6 gv ts ks ws ss → w'.cell? ⟨gv, i, none⟩ = some (.int .u32 y)) := hid fun h => by rw [h.cellI 0 rfl i (by rw [HL8.out]; exact hlt), hy]
                  clear e1 hx hy
                  try go_wp2_with fail
                  refine wp_region_L (T := fun w' => RV w w' g2 g4 g5 g6 gv ts ks ws ss) (by kernel_rfl) (by kernel_rfl) hS.drew ?_
                  intro wa hT
                  show wpT _ _ _ _ [0, 1, 2, 3, 4, 5, 6, 7, 8, 9] _ _
                  apply wpT_read (i := 0) rfl hT rfl -- Op.move t18
                  · intro w' hT'
                    simp only [List.getElem_toArray, List.getElem_cons_zero, List.getElem_cons_succ]
                    go_wp2_with fail
                    first | exact ⟨rfl, rfl, rfl⟩ | rfl
                  apply wpT_read (i := 1) rfl hT rfl -- Op.move t18
                  · intro w' hT'
                    simp only [List.getElem_toArray, List.getElem_cons_zero, List.getElem_cons_succ]
                    go_wp2_with fail
                    first | exact ⟨rfl, rfl, rfl⟩ | rfl
                  apply wpT_read (i := 2) rfl hT rfl -- Op.indexAddr 74 t2 t209
                  · intro w' hT'
                    simp only [List.getElem_toArray, List.getElem_cons_zero, List.getElem_cons_succ]
                    go_wp2_with fail
                    first | exact ⟨rfl, rfl, rfl⟩ | rfl
                  apply wpT_read (i := 3) rfl hT rfl -- Op.load 73 t210
                  · intro w' hT'
                    simp only [List.getElem_toArray, List.getElem_cons_zero, List.getElem_cons_succ]
                    have c1 := C1.out hT'
                    have c2 := C2.out hT'
                    go_wp2_with fail
                    first | exact ⟨rfl, rfl, rfl⟩ | rfl
                  apply wpT_read (i := 4) rfl hT rfl -- Op.move t18
                  · intro w' hT'
                    simp only [List.getElem_toArray, List.getElem_cons_zero, List.getElem_cons_succ]
                    go_wp2_with fail
                    first | exact ⟨rfl, rfl, rfl⟩ | rfl
                  apply wpT_read (i := 5) rfl hT rfl -- Op.indexAddr 74 t11 t212
                  · intro w' hT'
                    simp only [List.getElem_toArray, List.getElem_cons_zero, List.getElem_cons_succ]
                    go_wp2_with fail
                    first | exact ⟨rfl, rfl, rfl⟩ | rfl
                  apply wpT_read (i := 6) rfl hT rfl -- Op.load 73 t213
                  · intro w' hT'
                    simp only [List.getElem_toArray, List.getElem_cons_zero, List.getElem_cons_succ]
                    have c1 := C1.out hT'
                    have c2 := C2.out hT'
                    go_wp2_with fail
                    first | exact ⟨rfl, rfl, rfl⟩ | rfl
                  apply wpT_read (i := 7) rfl hT rfl -- Op.binOp BinOp.add 73 t211 t214 73
                  · intro w' hT'
                    simp only [List.getElem_toArray, List.getElem_cons_zero, List.getElem_cons_succ]
                    go_wp2_with fail
                    first | exact ⟨rfl, rfl, rfl⟩ | rfl
                  apply wpT_read (i := 8) rfl hT rfl -- Op.indexAddr 74 t2 t208
                  · intro w' hT'
                    simp only [List.getElem_toArray, List.getElem_cons_zero, List.getElem_cons_succ]
                    go_wp2_with fail
                    first | exact ⟨rfl, rfl, rfl⟩ | rfl
                  refine wpT_totL (i := 9) rfl rfl (by kernel_rfl) ?_ -- Op.store 73 t216 t215
                  simp only [List.getElem_toArray, List.getElem_cons_zero, List.getElem_cons_succ]
                  have fz := hT.frozen 4 rfl i
                  have cc := C1.out hT
                  go_wp2_with fail
                  refine OnX.mk (fun w' => RV w w' g2 g4 g5 g6 gv (topS h ss (i + 1)) ks ws ss) rfl ?_ ?_
                  · rw [HX.out]; exact hT.setI 4 rfl i _
                  clear hT
                  clear fz cc
                  intro w26_9 hT
                  refine wpT_end ?_
                  try dsimp only

                  go_wp2_with fail
                  go_roundg (gk - 1)
                  case measure => have := hq.out; omega
                  case rel => exact ⟨i + 1, by omega, by go_num, hid (by have := hq.out; omega), hT⟩
                · obtain rfl : i = 8 := by omega
                  rw [HF.out] at hS
                  have HSB : Hd ((shaBlock h b).length = 8) := hid (by rw [shaBlock_length, HL.out])
                  obtain ⟨zs, hzs⟩ : ∃ zs, Hd (shaBlock h b = zs) := ⟨_, hid rfl⟩
                  rw [hzs.out] at hS HSB HF
                  clear hlt hi hq
                  go_wp2_with (first
                    | (refine hs_loadW hS 4 rfl rfl 74 _ rfl rfl 8 infoW8 (by simp [HSB.out]) _ arrW8 rfl _ rfl ?_)
                    | (refine hs_storeW hS 3 rfl rfl 74 _ _ rfl rfl (ints .u32 zs) rfl (ints_one' _ _) _ infoW8 (by simp [HSB.out]) (by simp) _ rfl ?_; clear hS; intro wb hS)
                    | fail)
                  exact bodyPost_ret (results_blk rfl _ _ g4 _ _ 8 _ rfl (hS.blk 3 rfl) arrW8 (by simp [HSB.out]) infoW8) rfl ⟨by rw [hzs.out], hS.bel⟩
end Go.Proofs.YtinpilfnnmkpoaaDoor
