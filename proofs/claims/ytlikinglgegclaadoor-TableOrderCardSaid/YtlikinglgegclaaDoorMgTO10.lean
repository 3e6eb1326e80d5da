import Derived.Test.YtlikinglgegclaaDoorMgTO0
import Derived.Test.YtlikinglgegclaaDoorMgTO1
import Derived.Test.YtlikinglgegclaaDoorMgTO2
import Derived.Test.YtlikinglgegclaaDoorMgTO3
import Derived.Test.YtlikinglgegclaaDoorMgTO4
import Derived.Test.YtlikinglgegclaaDoorMgTO5
import Derived.Test.YtlikinglgegclaaDoorMgTO6
import Derived.Test.YtlikinglgegclaaDoorMgTO7
import Derived.Test.YtlikinglgegclaaDoorMgTO8
import Derived.Test.YtlikinglgegclaaDoorMgTO9
set_option linter.unusedSimpArgs false
set_option linter.unusedVariables false
open List (getElem_toArray getElem_cons_zero getElem_cons_succ)
/- The reference's round. -/
namespace Go.Proofs.YtlikinglgegclaaDoor
open Go.RowKit Go.Cour
theorem bits_or_comm' (k : IntKind) (x y : Int) : bits .or k x y = bits .or k y x := by
  unfold bits
  simp only [BitVec.or_comm]
theorem rotr2_calls (x : Int) (w : World) (h : 0 ≤ x) (h' : x < 4294967296) :
    Calls Tryd.prog 69 #[.int .u32 x, .int .u64 2] w fun e w' => e = .returned (.int .u32 (rotr 2 x)) ∧ w' = w :=
  (rot2_calls x w h h').mono fun e w' ⟨h1, h2⟩ => ⟨by rw [h1, bits_or_comm']; rfl, h2⟩
theorem rotr6_calls (x : Int) (w : World) (h : 0 ≤ x) (h' : x < 4294967296) :
    Calls Tryd.prog 69 #[.int .u32 x, .int .u64 6] w fun e w' => e = .returned (.int .u32 (rotr 6 x)) ∧ w' = w :=
  (rot6_calls x w h h').mono fun e w' ⟨h1, h2⟩ => ⟨by rw [h1, bits_or_comm']; rfl, h2⟩
theorem rotr7_calls (x : Int) (w : World) (h : 0 ≤ x) (h' : x < 4294967296) :
    Calls Tryd.prog 69 #[.int .u32 x, .int .u64 7] w fun e w' => e = .returned (.int .u32 (rotr 7 x)) ∧ w' = w :=
  (rot7_calls x w h h').mono fun e w' ⟨h1, h2⟩ => ⟨by rw [h1, bits_or_comm']; rfl, h2⟩
theorem rotr11_calls (x : Int) (w : World) (h : 0 ≤ x) (h' : x < 4294967296) :
    Calls Tryd.prog 69 #[.int .u32 x, .int .u64 11] w fun e w' => e = .returned (.int .u32 (rotr 11 x)) ∧ w' = w :=
  (rot11_calls x w h h').mono fun e w' ⟨h1, h2⟩ => ⟨by rw [h1, bits_or_comm']; rfl, h2⟩
theorem rotr13_calls (x : Int) (w : World) (h : 0 ≤ x) (h' : x < 4294967296) :
    Calls Tryd.prog 69 #[.int .u32 x, .int .u64 13] w fun e w' => e = .returned (.int .u32 (rotr 13 x)) ∧ w' = w :=
  (rot13_calls x w h h').mono fun e w' ⟨h1, h2⟩ => ⟨by rw [h1, bits_or_comm']; rfl, h2⟩
theorem rotr17_calls (x : Int) (w : World) (h : 0 ≤ x) (h' : x < 4294967296) :
    Calls Tryd.prog 69 #[.int .u32 x, .int .u64 17] w fun e w' => e = .returned (.int .u32 (rotr 17 x)) ∧ w' = w :=
  (rot17_calls x w h h').mono fun e w' ⟨h1, h2⟩ => ⟨by rw [h1, bits_or_comm']; rfl, h2⟩
theorem rotr18_calls (x : Int) (w : World) (h : 0 ≤ x) (h' : x < 4294967296) :
    Calls Tryd.prog 69 #[.int .u32 x, .int .u64 18] w fun e w' => e = .returned (.int .u32 (rotr 18 x)) ∧ w' = w :=
  (rot18_calls x w h h').mono fun e w' ⟨h1, h2⟩ => ⟨by rw [h1, bits_or_comm']; rfl, h2⟩
theorem rotr19_calls (x : Int) (w : World) (h : 0 ≤ x) (h' : x < 4294967296) :
    Calls Tryd.prog 69 #[.int .u32 x, .int .u64 19] w fun e w' => e = .returned (.int .u32 (rotr 19 x)) ∧ w' = w :=
  (rot19_calls x w h h').mono fun e w' ⟨h1, h2⟩ => ⟨by rw [h1, bits_or_comm']; rfl, h2⟩
theorem rotr22_calls (x : Int) (w : World) (h : 0 ≤ x) (h' : x < 4294967296) :
    Calls Tryd.prog 69 #[.int .u32 x, .int .u64 22] w fun e w' => e = .returned (.int .u32 (rotr 22 x)) ∧ w' = w :=
  (rot22_calls x w h h').mono fun e w' ⟨h1, h2⟩ => ⟨by rw [h1, bits_or_comm']; rfl, h2⟩
theorem rotr25_calls (x : Int) (w : World) (h : 0 ≤ x) (h' : x < 4294967296) :
    Calls Tryd.prog 69 #[.int .u32 x, .int .u64 25] w fun e w' => e = .returned (.int .u32 (rotr 25 x)) ∧ w' = w :=
  (rot25_calls x w h h').mono fun e w' ⟨h1, h2⟩ => ⟨by rw [h1, bits_or_comm']; rfl, h2⟩
/-- What the blocks of the reference's round hold. -/
abbrev RS (w wr : World) (g2 g4 g5 g6 : Nat) (h ks xs : List Int) : Prop := HS NoF w wr [.blk g6 123 (ints .u32 xs), .blk g5 123 (ints .u32 ks), .blk g4 88 (ints .u32 (List.replicate 8 0)), .blk g2 88 (ints .u32 h)]
abbrev RV (w wr : World) (g2 g4 g5 g6 gv : Nat) (h ks xs v : List Int) : Prop := HS NoF w wr [.blk gv 88 (ints .u32 v), .blk g6 123 (ints .u32 xs), .blk g5 123 (ints .u32 ks), .blk g4 88 (ints .u32 (List.replicate 8 0)), .blk g2 88 (ints .u32 h)]
set_option maxHeartbeats 4000000 in
set_option maxRecDepth 100000 in
theorem round1_calls (h b : List Int) (g o n c : Nat) (w : World) (hl : h.length = 8) (hh : ∀ x ∈ h, W32 x) (hb : At w g o b 64) (hr : ∀ i, 0 ≤ rd b i ∧ rd b i < 256) (hn : 64 ≤ n) :
    Calls Tryd.prog 40 #[.agg (ints .u32 h).toArray, .slice (some ⟨g, o, none⟩) n c] w fun e w' => e = .returned (.agg (ints .u32 (shaBlock h b)).toArray) ∧ Below w.heap.size w w' := by
  have HB := hid hb
  have HR := hid hr
  have HL := hid hl
  obtain ⟨ks, hks⟩ : ∃ ks, Hd (shaK = ks) := ⟨_, hid rfl⟩
  have HLk : Hd (ks.length = 64) := hid (by rw [← hks.out]; rfl)
  have hKb : Hd (Tryd.prog.built 123 ((shaK.zipIdx 0).map fun x => (x.2, Value.int .u32 x.1)) = some (ints .u32 ks).toArray) := hid (by rw [← hks.out]; kernel_rfl)
  clear hb hr hl
  have hS := HS.start NoF w
  go_enter Tryd.func40, Tryd.ntmps40
  go_wp2_with (first
    | (refine box_blk rfl 88 _ rfl _ rfl (ints .u32 h) rfl ?_; intro g2 wz hga hba hBa hsa; replace hS := hS.pushBlk hBa hba hga; clear hga hba hBa hsa)
    | (refine alloc_blk rfl 88 rfl _ rfl (ints .u32 (List.replicate 8 0)) zeroW8 ?_; intro g4 w4 hga hba hBa hsa; replace hS := hS.pushBlk hBa hba hga; clear hga hba hBa hsa)
    | (have _ := mk0; refine alloc_blk rfl 123 rfl _ rfl (ints .u32 (List.replicate 64 0)) zeroW64 ?_; intro g6 w6 hga hba hBa hsa; replace hS := hS.pushBlk hBa hba hga; clear hga hba hBa hsa; have mk1 : True := trivial)
    | (refine alloc_blk rfl 123 rfl _ rfl (ints .u32 (List.replicate 64 0)) zeroW64 ?_; intro g5 w5 hga hba hBa hsa; replace hS := hS.pushBlk hBa hba hga; clear hga hba hBa hsa; have mk0 : True := trivial)
    | (refine wpList_buildFlatArr rfl 123 29 64 _ rfl .u32 shaK arrW64 sizeU32 (by kernel_rfl) (by rfl) ?_; rw [show (shaK.map (Value.int .u32)) = ints .u32 ks from by rw [hks.out]; rfl])
    | (refine hs_storeW hS 0 rfl rfl 123 _ _ rfl rfl (ints .u32 ks) rfl (ints_one' _ _) _ infoW64 (by simp [HLk.out]) (by simp) _ rfl ?_; clear hS; intro w9 hS)
    | fail)
  replace hS : RS w w6 g2 g4 g5 g6 h ks (schedA b 0) := hS
  clear hKb
  go_loopg [7] 17 (fun kq v7 wr => ∃ i : Nat, i ≤ 16 ∧ v7 = .int .i64 i ∧ Hd (kq + i = 17) ∧ RS w wr g2 g4 g5 g6 h ks (schedA b i))
  case atStart => exact ⟨0, by omega, rfl, hid (by omega), hS⟩
  case round =>
    clear hS
    obtain ⟨i, hi, rfl, hq, hS⟩ := hrel
    by_cases hlt : i < 16
    · have hlt2 : (i : Int) < 16 := by omega
      obtain ⟨p, hp⟩ : ∃ p : Nat, 4 * i = p := ⟨_, rfl⟩
      have hp2 : 4 * (i : Int) = (p : Int) := by omega
      have hpn : p + 3 < n := by omega
      have HW : Hd (word32 b i = bits .or .u32 (bits .or .u32 (bits .or .u32 (rd b p * 16777216) (rd b (p + 1) * 65536)) (rd b (p + 2) * 256)) (rd b (p + 3))) := hid (by rw [← hp]; rfl)
      have r0 := HR.out p
      have r1 := HR.out (p + 1)
      have r2 := HR.out (p + 2)
      have r3 := HR.out (p + 3)
      have c0 := hid (HB.out p (by omega))
      have c1 := hid (HB.out (p + 1) (by omega))
      have c2 := hid (HB.out (p + 2) (by omega))
      have c3 := hid (HB.out (p + 3) (by omega))
      have HLA : Hd (i < (schedA b i).length) := hid (by simp; omega)
      have HX := hid (schedA_succ b i)
      generalize rd b p = b0 at *
      generalize rd b (p + 1) = b1 at *
      generalize rd b (p + 2) = b2 at *
      generalize rd b (p + 3) = b3 at *
      clear hp
      try go_wp2_with fail
      refine wp_region_L (T := fun w' => RS w w' g2 g4 g5 g6 h ks (schedA b i)) (by kernel_rfl) (by kernel_rfl) hS.drew ?_
      intro wa hT
      show wpT _ _ _ _ [0, 1, 2, 3, 4, 5, 6, 7, 8, 9, 10, 11, 12, 13, 14, 15, 16, 17, 18, 19, 20, 21, 22, 23, 24, 25, 26, 27, 28, 29, 30, 31, 32, 33, 34, 35] _ _
      apply wpT_read (i := 0) rfl hT rfl
      · intro w' hT'
        simp only [getElem_toArray, getElem_cons_zero, getElem_cons_succ]
        go_wp2_with fail
        first | exact ⟨rfl, rfl, rfl⟩ | rfl
      apply wpT_read (i := 1) rfl hT rfl
      · intro w' hT'
        simp only [getElem_toArray, getElem_cons_zero, getElem_cons_succ]
        go_wp2_with fail
        first | exact ⟨rfl, rfl, rfl⟩ | rfl
      apply wpT_read (i := 2) rfl hT rfl
      · intro w' hT'
        simp only [getElem_toArray, getElem_cons_zero, getElem_cons_succ]
        go_wp2_with fail
        first | exact ⟨rfl, rfl, rfl⟩ | rfl
      apply wpT_read (i := 3) rfl hT rfl
      · intro w' hT'
        simp only [getElem_toArray, getElem_cons_zero, getElem_cons_succ]
        go_wp2_with fail
        first | exact ⟨rfl, rfl, rfl⟩ | rfl
      apply wpT_read (i := 4) rfl hT rfl
      · intro w' hT'
        simp only [getElem_toArray, getElem_cons_zero, getElem_cons_succ]
        go_wp2_with fail
        first | exact ⟨rfl, rfl, rfl⟩ | rfl
      apply wpT_read (i := 5) rfl hT rfl
      · intro w' hT'
        simp only [getElem_toArray, getElem_cons_zero, getElem_cons_succ]
        have k0 := hT'.oldCell c0.out id
        have k1 := hT'.oldCell c1.out id
        have k2 := hT'.oldCell c2.out id
        have k3 := hT'.oldCell c3.out id
        go_wp2_with fail
        first | exact ⟨rfl, rfl, rfl⟩ | rfl
      apply wpT_read (i := 6) rfl hT rfl
      · intro w' hT'
        simp only [getElem_toArray, getElem_cons_zero, getElem_cons_succ]
        go_wp2_with fail
        first | exact ⟨rfl, rfl, rfl⟩ | rfl
      apply wpT_read (i := 7) rfl hT rfl
      · intro w' hT'
        simp only [getElem_toArray, getElem_cons_zero, getElem_cons_succ]
        go_wp2_with fail
        first | exact ⟨rfl, rfl, rfl⟩ | rfl
      apply wpT_read (i := 8) rfl hT rfl
      · intro w' hT'
        simp only [getElem_toArray, getElem_cons_zero, getElem_cons_succ]
        go_wp2_with fail
        first | exact ⟨rfl, rfl, rfl⟩ | rfl
      apply wpT_read (i := 9) rfl hT rfl
      · intro w' hT'
        simp only [getElem_toArray, getElem_cons_zero, getElem_cons_succ]
        go_wp2_with fail
        first | exact ⟨rfl, rfl, rfl⟩ | rfl
      apply wpT_read (i := 10) rfl hT rfl
      · intro w' hT'
        simp only [getElem_toArray, getElem_cons_zero, getElem_cons_succ]
        go_wp2_with fail
        first | exact ⟨rfl, rfl, rfl⟩ | rfl
      apply wpT_read (i := 11) rfl hT rfl
      · intro w' hT'
        simp only [getElem_toArray, getElem_cons_zero, getElem_cons_succ]
        go_wp2_with fail
        first | exact ⟨rfl, rfl, rfl⟩ | rfl
      apply wpT_read (i := 12) rfl hT rfl
      · intro w' hT'
        simp only [getElem_toArray, getElem_cons_zero, getElem_cons_succ]
        go_wp2_with fail
        first | exact ⟨rfl, rfl, rfl⟩ | rfl
      apply wpT_read (i := 13) rfl hT rfl
      · intro w' hT'
        simp only [getElem_toArray, getElem_cons_zero, getElem_cons_succ]
        have k0 := hT'.oldCell c0.out id
        have k1 := hT'.oldCell c1.out id
        have k2 := hT'.oldCell c2.out id
        have k3 := hT'.oldCell c3.out id
        go_wp2_with fail
        first | exact ⟨rfl, rfl, rfl⟩ | rfl
      apply wpT_read (i := 14) rfl hT rfl
      · intro w' hT'
        simp only [getElem_toArray, getElem_cons_zero, getElem_cons_succ]
        go_wp2_with fail
        first | exact ⟨rfl, rfl, rfl⟩ | rfl
      apply wpT_read (i := 15) rfl hT rfl
      · intro w' hT'
        simp only [getElem_toArray, getElem_cons_zero, getElem_cons_succ]
        go_wp2_with fail
        first | exact ⟨rfl, rfl, rfl⟩ | rfl
      apply wpT_read (i := 16) rfl hT rfl
      · intro w' hT'
        simp only [getElem_toArray, getElem_cons_zero, getElem_cons_succ]
        go_wp2_with fail
        first | exact ⟨rfl, rfl, rfl⟩ | rfl
      apply wpT_read (i := 17) rfl hT rfl
      · intro w' hT'
        simp only [getElem_toArray, getElem_cons_zero, getElem_cons_succ]
        go_wp2_with fail
        first | exact ⟨rfl, rfl, rfl⟩ | rfl
      apply wpT_read (i := 18) rfl hT rfl
      · intro w' hT'
        simp only [getElem_toArray, getElem_cons_zero, getElem_cons_succ]
        go_wp2_with fail
        first | exact ⟨rfl, rfl, rfl⟩ | rfl
      apply wpT_read (i := 19) rfl hT rfl
      · intro w' hT'
        simp only [getElem_toArray, getElem_cons_zero, getElem_cons_succ]
        go_wp2_with fail
        first | exact ⟨rfl, rfl, rfl⟩ | rfl
      apply wpT_read (i := 20) rfl hT rfl
      · intro w' hT'
        simp only [getElem_toArray, getElem_cons_zero, getElem_cons_succ]
        go_wp2_with fail
        first | exact ⟨rfl, rfl, rfl⟩ | rfl
      apply wpT_read (i := 21) rfl hT rfl
      · intro w' hT'
        simp only [getElem_toArray, getElem_cons_zero, getElem_cons_succ]
        go_wp2_with fail
        first | exact ⟨rfl, rfl, rfl⟩ | rfl
      apply wpT_read (i := 22) rfl hT rfl
      · intro w' hT'
        simp only [getElem_toArray, getElem_cons_zero, getElem_cons_succ]
        have k0 := hT'.oldCell c0.out id
        have k1 := hT'.oldCell c1.out id
        have k2 := hT'.oldCell c2.out id
        have k3 := hT'.oldCell c3.out id
        go_wp2_with fail
        first | exact ⟨rfl, rfl, rfl⟩ | rfl
      apply wpT_read (i := 23) rfl hT rfl
      · intro w' hT'
        simp only [getElem_toArray, getElem_cons_zero, getElem_cons_succ]
        go_wp2_with fail
        first | exact ⟨rfl, rfl, rfl⟩ | rfl
      apply wpT_read (i := 24) rfl hT rfl
      · intro w' hT'
        simp only [getElem_toArray, getElem_cons_zero, getElem_cons_succ]
        go_wp2_with fail
        first | exact ⟨rfl, rfl, rfl⟩ | rfl
      apply wpT_read (i := 25) rfl hT rfl
      · intro w' hT'
        simp only [getElem_toArray, getElem_cons_zero, getElem_cons_succ]
        go_wp2_with fail
        first | exact ⟨rfl, rfl, rfl⟩ | rfl
      apply wpT_read (i := 26) rfl hT rfl
      · intro w' hT'
        simp only [getElem_toArray, getElem_cons_zero, getElem_cons_succ]
        go_wp2_with fail
        first | exact ⟨rfl, rfl, rfl⟩ | rfl
      apply wpT_read (i := 27) rfl hT rfl
      · intro w' hT'
        simp only [getElem_toArray, getElem_cons_zero, getElem_cons_succ]
        go_wp2_with fail
        first | exact ⟨rfl, rfl, rfl⟩ | rfl
      apply wpT_read (i := 28) rfl hT rfl
      · intro w' hT'
        simp only [getElem_toArray, getElem_cons_zero, getElem_cons_succ]
        go_wp2_with fail
        first | exact ⟨rfl, rfl, rfl⟩ | rfl
      apply wpT_read (i := 29) rfl hT rfl
      · intro w' hT'
        simp only [getElem_toArray, getElem_cons_zero, getElem_cons_succ]
        go_wp2_with fail
        first | exact ⟨rfl, rfl, rfl⟩ | rfl
      apply wpT_read (i := 30) rfl hT rfl
      · intro w' hT'
        simp only [getElem_toArray, getElem_cons_zero, getElem_cons_succ]
        go_wp2_with fail
        first | exact ⟨rfl, rfl, rfl⟩ | rfl
      apply wpT_read (i := 31) rfl hT rfl
      · intro w' hT'
        simp only [getElem_toArray, getElem_cons_zero, getElem_cons_succ]
        have k0 := hT'.oldCell c0.out id
        have k1 := hT'.oldCell c1.out id
        have k2 := hT'.oldCell c2.out id
        have k3 := hT'.oldCell c3.out id
        go_wp2_with fail
        first | exact ⟨rfl, rfl, rfl⟩ | rfl
      apply wpT_read (i := 32) rfl hT rfl
      · intro w' hT'
        simp only [getElem_toArray, getElem_cons_zero, getElem_cons_succ]
        go_wp2_with fail
        first | exact ⟨rfl, rfl, rfl⟩ | rfl
      apply wpT_read (i := 33) rfl hT rfl
      · intro w' hT'
        simp only [getElem_toArray, getElem_cons_zero, getElem_cons_succ]
        go_wp2_with fail
        first | exact ⟨rfl, rfl, rfl⟩ | rfl
      apply wpT_read (i := 34) rfl hT rfl
      · intro w' hT'
        simp only [getElem_toArray, getElem_cons_zero, getElem_cons_succ]
        go_wp2_with fail
        first | exact ⟨rfl, rfl, rfl⟩ | rfl
      refine wpT_totL (i := 35) rfl rfl (by kernel_rfl) ?_
      simp only [getElem_toArray, getElem_cons_zero, getElem_cons_succ]
      have fz := hT.frozen 0 rfl i
      have cc := hT.cellI 0 rfl i HLA.out
      go_wp2_with fail
      refine OnX.mk (fun w' => RS w w' g2 g4 g5 g6 h ks (schedA b (i + 1))) rfl ?_ ?_
      · rw [HX.out, HW.out]; exact hT.setI 0 rfl i _
      clear hT
      clear fz cc
      intro w6_35 hT
      refine wpT_end ?_
      try dsimp only
      go_wp2_with fail
      go_roundg (gk - 1)
      case measure => have := hq.out; omega
      case rel => exact ⟨i + 1, by omega, by go_num, hid (by have := hq.out; omega), hT⟩
    · obtain rfl : i = 16 := by omega
      have hA : Hd (schedA b 16 = schedB b 0) := hid rfl
      rw [hA.out] at hS
      clear hA
      go_wp2_with fail
      go_loopg [8, 9, 10] 49 (fun kq v8 v9 v10 wr => ∃ q : Nat, 16 ≤ q ∧ q ≤ 64 ∧ v8 = .int .i64 q ∧ Hd (kq + q = 65) ∧ RS w wr g2 g4 g5 g6 h ks (schedB b (q - 16)))
      case atStart => exact ⟨16, by omega, by omega, rfl, hid (by omega), hS⟩
      case round =>
        clear hS hq
        obtain ⟨q, hq1, hq2, rfl, hq, hS⟩ := hrel
        by_cases hlt : q < 64
        · have hlt2 : (q : Int) < 64 := by omega
          obtain ⟨p15, hp15⟩ : ∃ p : Nat, q - 15 = p := ⟨_, rfl⟩
          obtain ⟨p2, hp2⟩ : ∃ p : Nat, q - 2 = p := ⟨_, rfl⟩
          obtain ⟨p16, hp16⟩ : ∃ p : Nat, q - 16 = p := ⟨_, rfl⟩
          obtain ⟨p7, hp7⟩ : ∃ p : Nat, q - 7 = p := ⟨_, rfl⟩
          have e15 : (q : Int) - 15 = (p15 : Int) := by omega
          have e2 : (q : Int) - 2 = (p2 : Int) := by omega
          have e16 : (q : Int) - 16 = (p16 : Int) := by omega
          have e7 : (q : Int) - 7 = (p7 : Int) := by omega
          have l15 : p15 < 64 := by omega
          have l2 : p2 < 64 := by omega
          have l16 : p16 < 64 := by omega
          have l7 : p7 < 64 := by omega
          have HX := hid (schedB_succ b p16)
          rw [hp16] at hS
          have hq16 : 16 + p16 = q := by omega
          have HN : Hd (q + 1 - 16 = p16 + 1) := hid (by omega)
          rw [hq16] at HX
          have R := schedB_W32 b p16
          have HL2 := schedB_length b p16
          generalize schedB b p16 = ws at *
          obtain ⟨x15, hx15⟩ : ∃ x, rd ws p15 = x := ⟨_, rfl⟩
          obtain ⟨x2, hx2⟩ : ∃ x, rd ws p2 = x := ⟨_, rfl⟩
          obtain ⟨x16, hx16⟩ : ∃ x, rd ws p16 = x := ⟨_, rfl⟩
          obtain ⟨x7, hx7⟩ : ∃ x, rd ws p7 = x := ⟨_, rfl⟩
          obtain ⟨r15, s15⟩ : W32 x15 := hx15 ▸ rd_all R zero_W32 _
          obtain ⟨r2, s2⟩ : W32 x2 := hx2 ▸ rd_all R zero_W32 _
          obtain ⟨r16, s16⟩ : W32 x16 := hx16 ▸ rd_all R zero_W32 _
          obtain ⟨r7, s7⟩ : W32 x7 := hx7 ▸ rd_all R zero_W32 _
          have HW : Hd (schedW ws q = (x16 + sig 7 18 8 x15 + x7 + sig 17 19 1024 x2) % 4294967296) := hid (by unfold schedW; rw [hp15, hp2, hp16, hp7, hx15, hx2, hx16, hx7])
          have C15 : Hd (∀ {w'}, RS w w' g2 g4 g5 g6 h ks ws → w'.cell? ⟨g6, p15, none⟩ = some (.int .u32 x15)) := hid fun h => by rw [h.cellI 0 rfl p15 (by omega), hx15]
          have C2 : Hd (∀ {w'}, RS w w' g2 g4 g5 g6 h ks ws → w'.cell? ⟨g6, p2, none⟩ = some (.int .u32 x2)) := hid fun h => by rw [h.cellI 0 rfl p2 (by omega), hx2]
          have C16 : Hd (∀ {w'}, RS w w' g2 g4 g5 g6 h ks ws → w'.cell? ⟨g6, p16, none⟩ = some (.int .u32 x16)) := hid fun h => by rw [h.cellI 0 rfl p16 (by omega), hx16]
          have C7 : Hd (∀ {w'}, RS w w' g2 g4 g5 g6 h ks ws → w'.cell? ⟨g6, p7, none⟩ = some (.int .u32 x7)) := hid fun h => by rw [h.cellI 0 rfl p7 (by omega), hx7]
          have HQ : Hd (q < ws.length) := hid (by omega)
          clear hp15 hp2 hp16 hp7 hx15 hx2 hx16 hx7 R hq16 HL2
          try go_wp2_with fail
          refine wp_region_L (T := fun w' => RS w w' g2 g4 g5 g6 h ks ws) (by kernel_rfl) (by kernel_rfl) hS.drew ?_
          intro wa hT
          show wpT _ _ _ _ [0, 1, 2, 3, 4, 5, 6, 7, 8, 9, 10, 11, 12, 13, 14, 15, 16, 17] _ _
          apply wpT_read (i := 0) rfl hT rfl
          · intro w' hT'
            simp only [getElem_toArray, getElem_cons_zero, getElem_cons_succ]
            go_wp2_with fail
            first | exact ⟨rfl, rfl, rfl⟩ | rfl
          apply wpT_read (i := 1) rfl hT rfl
          · intro w' hT'
            simp only [getElem_toArray, getElem_cons_zero, getElem_cons_succ]
            go_wp2_with fail
            first | exact ⟨rfl, rfl, rfl⟩ | rfl
          apply wpT_read (i := 2) rfl hT rfl
          · intro w' hT'
            simp only [getElem_toArray, getElem_cons_zero, getElem_cons_succ]
            go_wp2_with fail
            first | exact ⟨rfl, rfl, rfl⟩ | rfl
          apply wpT_read (i := 3) rfl hT rfl
          · intro w' hT'
            simp only [getElem_toArray, getElem_cons_zero, getElem_cons_succ]
            have k15 := C15.out hT'
            go_wp2_with fail
            first | exact ⟨rfl, rfl, rfl⟩ | rfl
          refine wpT_actL (i := 4) rfl rfl ?_
          simp only [getElem_toArray, getElem_cons_zero, getElem_cons_succ]
          go_wp2_with (first
            | (go_at_call 69; refine (rotr7_calls x15 _ r15 s15).mono ?_; rintro e w1 ⟨rfl, rfl⟩)
            | fail)
          refine OnT.mk rfl ?_ ?_
          · exact hT
          clear hT
          intro w10_4 hT
          apply wpT_read (i := 5) rfl hT rfl
          · intro w' hT'
            simp only [getElem_toArray, getElem_cons_zero, getElem_cons_succ]
            go_wp2_with fail
            first | exact ⟨rfl, rfl, rfl⟩ | rfl
          apply wpT_read (i := 6) rfl hT rfl
          · intro w' hT'
            simp only [getElem_toArray, getElem_cons_zero, getElem_cons_succ]
            go_wp2_with fail
            first | exact ⟨rfl, rfl, rfl⟩ | rfl
          apply wpT_read (i := 7) rfl hT rfl
          · intro w' hT'
            simp only [getElem_toArray, getElem_cons_zero, getElem_cons_succ]
            go_wp2_with fail
            first | exact ⟨rfl, rfl, rfl⟩ | rfl
          apply wpT_read (i := 8) rfl hT rfl
          · intro w' hT'
            simp only [getElem_toArray, getElem_cons_zero, getElem_cons_succ]
            have k15 := C15.out hT'
            go_wp2_with fail
            first | exact ⟨rfl, rfl, rfl⟩ | rfl
          refine wpT_actL (i := 9) rfl rfl ?_
          simp only [getElem_toArray, getElem_cons_zero, getElem_cons_succ]
          go_wp2_with (first
            | (go_at_call 69; refine (rotr18_calls x15 _ r15 s15).mono ?_; rintro e w1 ⟨rfl, rfl⟩)
            | fail)
          refine OnT.mk rfl ?_ ?_
          · exact hT
          clear hT
          intro w10_9 hT
          apply wpT_read (i := 10) rfl hT rfl
          · intro w' hT'
            simp only [getElem_toArray, getElem_cons_zero, getElem_cons_succ]
            go_wp2_with fail
            first | exact ⟨rfl, rfl, rfl⟩ | rfl
          apply wpT_read (i := 11) rfl hT rfl
          · intro w' hT'
            simp only [getElem_toArray, getElem_cons_zero, getElem_cons_succ]
            go_wp2_with fail
            first | exact ⟨rfl, rfl, rfl⟩ | rfl
          apply wpT_read (i := 12) rfl hT rfl
          · intro w' hT'
            simp only [getElem_toArray, getElem_cons_zero, getElem_cons_succ]
            go_wp2_with fail
            first | exact ⟨rfl, rfl, rfl⟩ | rfl
          apply wpT_read (i := 13) rfl hT rfl
          · intro w' hT'
            simp only [getElem_toArray, getElem_cons_zero, getElem_cons_succ]
            go_wp2_with fail
            first | exact ⟨rfl, rfl, rfl⟩ | rfl
          apply wpT_read (i := 14) rfl hT rfl
          · intro w' hT'
            simp only [getElem_toArray, getElem_cons_zero, getElem_cons_succ]
            have k15 := C15.out hT'
            go_wp2_with fail
            first | exact ⟨rfl, rfl, rfl⟩ | rfl
          apply wpT_read (i := 15) rfl hT rfl
          · intro w' hT'
            simp only [getElem_toArray, getElem_cons_zero, getElem_cons_succ]
            go_wp2_with fail
            first | exact ⟨rfl, rfl, rfl⟩ | rfl
          apply wpT_read (i := 16) rfl hT rfl
          · intro w' hT'
            simp only [getElem_toArray, getElem_cons_zero, getElem_cons_succ]
            go_wp2_with fail
            first | exact ⟨rfl, rfl, rfl⟩ | rfl
          apply wpT_read (i := 17) rfl hT rfl
          · intro w' hT'
            simp only [getElem_toArray, getElem_cons_zero, getElem_cons_succ]
            go_wp2_with fail
            first | exact ⟨rfl, rfl, rfl⟩ | rfl
          refine wpT_end ?_
          try dsimp only
          replace hS := hT
          clear hT
          try go_wp2_with fail
          refine wp_region_L (T := fun w' => RS w w' g2 g4 g5 g6 h ks ws) (by kernel_rfl) (by kernel_rfl) hS.drew ?_
          intro wa hT
          show wpT _ _ _ _ [0, 1, 2, 3, 4, 5, 6, 7, 8, 9, 10, 11, 12, 13, 14, 15, 16, 17] _ _
          apply wpT_read (i := 0) rfl hT rfl
          · intro w' hT'
            simp only [getElem_toArray, getElem_cons_zero, getElem_cons_succ]
            go_wp2_with fail
            first | exact ⟨rfl, rfl, rfl⟩ | rfl
          apply wpT_read (i := 1) rfl hT rfl
          · intro w' hT'
            simp only [getElem_toArray, getElem_cons_zero, getElem_cons_succ]
            go_wp2_with fail
            first | exact ⟨rfl, rfl, rfl⟩ | rfl
          apply wpT_read (i := 2) rfl hT rfl
          · intro w' hT'
            simp only [getElem_toArray, getElem_cons_zero, getElem_cons_succ]
            go_wp2_with fail
            first | exact ⟨rfl, rfl, rfl⟩ | rfl
          apply wpT_read (i := 3) rfl hT rfl
          · intro w' hT'
            simp only [getElem_toArray, getElem_cons_zero, getElem_cons_succ]
            have k2 := C2.out hT'
            go_wp2_with fail
            first | exact ⟨rfl, rfl, rfl⟩ | rfl
          refine wpT_actL (i := 4) rfl rfl ?_
          simp only [getElem_toArray, getElem_cons_zero, getElem_cons_succ]
          go_wp2_with (first
            | (go_at_call 69; refine (rotr17_calls x2 _ r2 s2).mono ?_; rintro e w1 ⟨rfl, rfl⟩)
            | fail)
          refine OnT.mk rfl ?_ ?_
          · exact hT
          clear hT
          intro w11_4 hT
          apply wpT_read (i := 5) rfl hT rfl
          · intro w' hT'
            simp only [getElem_toArray, getElem_cons_zero, getElem_cons_succ]
            go_wp2_with fail
            first | exact ⟨rfl, rfl, rfl⟩ | rfl
          apply wpT_read (i := 6) rfl hT rfl
          · intro w' hT'
            simp only [getElem_toArray, getElem_cons_zero, getElem_cons_succ]
            go_wp2_with fail
            first | exact ⟨rfl, rfl, rfl⟩ | rfl
          apply wpT_read (i := 7) rfl hT rfl
          · intro w' hT'
            simp only [getElem_toArray, getElem_cons_zero, getElem_cons_succ]
            go_wp2_with fail
            first | exact ⟨rfl, rfl, rfl⟩ | rfl
          apply wpT_read (i := 8) rfl hT rfl
          · intro w' hT'
            simp only [getElem_toArray, getElem_cons_zero, getElem_cons_succ]
            have k2 := C2.out hT'
            go_wp2_with fail
            first | exact ⟨rfl, rfl, rfl⟩ | rfl
          refine wpT_actL (i := 9) rfl rfl ?_
          simp only [getElem_toArray, getElem_cons_zero, getElem_cons_succ]
          go_wp2_with (first
            | (go_at_call 69; refine (rotr19_calls x2 _ r2 s2).mono ?_; rintro e w1 ⟨rfl, rfl⟩)
            | fail)
          refine OnT.mk rfl ?_ ?_
          · exact hT
          clear hT
          intro w11_9 hT
          apply wpT_read (i := 10) rfl hT rfl
          · intro w' hT'
            simp only [getElem_toArray, getElem_cons_zero, getElem_cons_succ]
            go_wp2_with fail
            first | exact ⟨rfl, rfl, rfl⟩ | rfl
          apply wpT_read (i := 11) rfl hT rfl
          · intro w' hT'
            simp only [getElem_toArray, getElem_cons_zero, getElem_cons_succ]
            go_wp2_with fail
            first | exact ⟨rfl, rfl, rfl⟩ | rfl
          apply wpT_read (i := 12) rfl hT rfl
          · intro w' hT'
            simp only [getElem_toArray, getElem_cons_zero, getElem_cons_succ]
            go_wp2_with fail
            first | exact ⟨rfl, rfl, rfl⟩ | rfl
          apply wpT_read (i := 13) rfl hT rfl
          · intro w' hT'
            simp only [getElem_toArray, getElem_cons_zero, getElem_cons_succ]
            go_wp2_with fail
            first | exact ⟨rfl, rfl, rfl⟩ | rfl
          apply wpT_read (i := 14) rfl hT rfl
          · intro w' hT'
            simp only [getElem_toArray, getElem_cons_zero, getElem_cons_succ]
            have k2 := C2.out hT'
            go_wp2_with fail
            first | exact ⟨rfl, rfl, rfl⟩ | rfl
          apply wpT_read (i := 15) rfl hT rfl
          · intro w' hT'
            simp only [getElem_toArray, getElem_cons_zero, getElem_cons_succ]
            go_wp2_with fail
            first | exact ⟨rfl, rfl, rfl⟩ | rfl
          apply wpT_read (i := 16) rfl hT rfl
          · intro w' hT'
            simp only [getElem_toArray, getElem_cons_zero, getElem_cons_succ]
            go_wp2_with fail
            first | exact ⟨rfl, rfl, rfl⟩ | rfl
          apply wpT_read (i := 17) rfl hT rfl
          · intro w' hT'
            simp only [getElem_toArray, getElem_cons_zero, getElem_cons_succ]
            go_wp2_with fail
            first | exact ⟨rfl, rfl, rfl⟩ | rfl
          refine wpT_end ?_
          try dsimp only
          replace hS := hT
          clear hT
          try go_wp2_with fail
          refine wp_region_L (T := fun w' => RS w w' g2 g4 g5 g6 h ks ws) (by kernel_rfl) (by kernel_rfl) hS.drew ?_
          intro wa hT
          show wpT _ _ _ _ [0, 1, 2, 3, 4, 5, 6, 7, 8, 9, 10, 11, 12, 13, 14, 15] _ _
          apply wpT_read (i := 0) rfl hT rfl
          · intro w' hT'
            simp only [getElem_toArray, getElem_cons_zero, getElem_cons_succ]
            go_wp2_with fail
            first | exact ⟨rfl, rfl, rfl⟩ | rfl
          apply wpT_read (i := 1) rfl hT rfl
          · intro w' hT'
            simp only [getElem_toArray, getElem_cons_zero, getElem_cons_succ]
            go_wp2_with fail
            first | exact ⟨rfl, rfl, rfl⟩ | rfl
          apply wpT_read (i := 2) rfl hT rfl
          · intro w' hT'
            simp only [getElem_toArray, getElem_cons_zero, getElem_cons_succ]
            go_wp2_with fail
            first | exact ⟨rfl, rfl, rfl⟩ | rfl
          apply wpT_read (i := 3) rfl hT rfl
          · intro w' hT'
            simp only [getElem_toArray, getElem_cons_zero, getElem_cons_succ]
            go_wp2_with fail
            first | exact ⟨rfl, rfl, rfl⟩ | rfl
          apply wpT_read (i := 4) rfl hT rfl
          · intro w' hT'
            simp only [getElem_toArray, getElem_cons_zero, getElem_cons_succ]
            have k16 := C16.out hT'
            have k7 := C7.out hT'
            go_wp2_with fail
            first | exact ⟨rfl, rfl, rfl⟩ | rfl
          apply wpT_read (i := 5) rfl hT rfl
          · intro w' hT'
            simp only [getElem_toArray, getElem_cons_zero, getElem_cons_succ]
            go_wp2_with fail
            first | exact ⟨rfl, rfl, rfl⟩ | rfl
          apply wpT_read (i := 6) rfl hT rfl
          · intro w' hT'
            simp only [getElem_toArray, getElem_cons_zero, getElem_cons_succ]
            go_wp2_with fail
            first | exact ⟨rfl, rfl, rfl⟩ | rfl
          apply wpT_read (i := 7) rfl hT rfl
          · intro w' hT'
            simp only [getElem_toArray, getElem_cons_zero, getElem_cons_succ]
            go_wp2_with fail
            first | exact ⟨rfl, rfl, rfl⟩ | rfl
          apply wpT_read (i := 8) rfl hT rfl
          · intro w' hT'
            simp only [getElem_toArray, getElem_cons_zero, getElem_cons_succ]
            go_wp2_with fail
            first | exact ⟨rfl, rfl, rfl⟩ | rfl
          apply wpT_read (i := 9) rfl hT rfl
          · intro w' hT'
            simp only [getElem_toArray, getElem_cons_zero, getElem_cons_succ]
            go_wp2_with fail
            first | exact ⟨rfl, rfl, rfl⟩ | rfl
          apply wpT_read (i := 10) rfl hT rfl
          · intro w' hT'
            simp only [getElem_toArray, getElem_cons_zero, getElem_cons_succ]
            have k16 := C16.out hT'
            have k7 := C7.out hT'
            go_wp2_with fail
            first | exact ⟨rfl, rfl, rfl⟩ | rfl
          apply wpT_read (i := 11) rfl hT rfl
          · intro w' hT'
            simp only [getElem_toArray, getElem_cons_zero, getElem_cons_succ]
            go_wp2_with fail
            first | exact ⟨rfl, rfl, rfl⟩ | rfl
          apply wpT_read (i := 12) rfl hT rfl
          · intro w' hT'
            simp only [getElem_toArray, getElem_cons_zero, getElem_cons_succ]
            go_wp2_with fail
            first | exact ⟨rfl, rfl, rfl⟩ | rfl
          apply wpT_read (i := 13) rfl hT rfl
          · intro w' hT'
            simp only [getElem_toArray, getElem_cons_zero, getElem_cons_succ]
            go_wp2_with fail
            first | exact ⟨rfl, rfl, rfl⟩ | rfl
          apply wpT_read (i := 14) rfl hT rfl
          · intro w' hT'
            simp only [getElem_toArray, getElem_cons_zero, getElem_cons_succ]
            go_wp2_with fail
            first | exact ⟨rfl, rfl, rfl⟩ | rfl
          refine wpT_totL (i := 15) rfl rfl (by kernel_rfl) ?_
          simp only [getElem_toArray, getElem_cons_zero, getElem_cons_succ]
          have fz := hT.frozen 0 rfl q
          have cc := hT.cellI 0 rfl q HQ.out
          go_wp2_with fail
          refine OnX.mk (fun w' => RS w w' g2 g4 g5 g6 h ks (schedB b (p16 + 1))) rfl ?_ ?_
          · rw [HX.out, HW.out]; exact hT.setI 0 rfl q _
          clear hT
          clear fz cc
          intro w12_15 hT
          refine wpT_end ?_
          try dsimp only
          go_wp2_with fail
          go_roundg (gk - 1)
          case measure => have := hq.out; omega
          case rel => exact ⟨q + 1, by omega, by omega, by go_num, hid (by have := hq.out; omega), by rw [HN.out]; exact hT⟩
        · obtain rfl : q = 64 := by omega
          clear hlt hq1 hq2 hq
          replace hS : RS w wr g2 g4 g5 g6 h ks (sched b) := hS
          obtain ⟨ws, hws⟩ : ∃ ws, Hd (sched b = ws) := ⟨_, hid rfl⟩
          have HLs : Hd (ws.length = 64) := hid (by rw [← hws.out]; exact schedB_length b 48)
          rw [hws.out] at hS
          go_wp2_with (first
            | (refine hs_loadW hS 3 rfl rfl 88 _ rfl rfl 8 infoW8 (by simp [HL.out]) _ arrW8 rfl _ rfl ?_)
            | (refine alloc_blk rfl 88 rfl _ rfl (ints .u32 (List.replicate 8 0)) zeroW8 ?_; intro gv wv hga hba hBa hsa; replace hS := hS.pushBlk hBa hba hga; clear hga hba hBa hsa)
            | (refine hs_storeW hS 0 rfl rfl 88 _ _ rfl rfl (ints .u32 h) rfl (ints_one' _ _) _ infoW8 (by simp [HL.out]) (by simp) _ rfl ?_; clear hS; intro wb hS)
            | fail)
          replace hS : RV w wb g2 g4 g5 g6 gv h ks ws (roundsS b h 0) := hS
          go_loopg [12, 13, 14, 15, 16, 17] 65 (fun kq v12 v13 v14 v15 v16 v17 wr => ∃ i : Nat, i ≤ 64 ∧ v12 = .int .i64 i ∧ Hd (kq + i = 65) ∧ RV w wr g2 g4 g5 g6 gv h ks ws (roundsS b h i))
          case atStart => exact ⟨0, by omega, rfl, hid (by omega), hS⟩
          case round =>
            clear hS
            obtain ⟨i, hi, rfl, hq, hS⟩ := hrel
            by_cases hlt : i < 64
            · have hlt2 : (i : Int) < 64 := by omega
              have HX := hid (roundsS_succ b h i)
              rw [hws.out] at HX
              have R := roundsS_W32 b h hh i
              have HL8 := roundsS_length b h HL.out i
              generalize roundsS b h i = ss at *
              obtain ⟨x0, x1, x2, x3, x4, x5, x6, x7, rfl⟩ := eight HL8
              obtain ⟨⟨r0, s0⟩, ⟨r1, s1⟩, ⟨r2, s2⟩, ⟨r3, s3⟩, ⟨r4, s4⟩, ⟨r5, s5⟩, ⟨r6, s6⟩, ⟨r7, s7⟩⟩ : W32 x0 ∧ W32 x1 ∧ W32 x2 ∧ W32 x3 ∧ W32 x4 ∧ W32 x5 ∧ W32 x6 ∧ W32 x7 := by
                refine ⟨R _ ?_, R _ ?_, R _ ?_, R _ ?_, R _ ?_, R _ ?_, R _ ?_, R _ ?_⟩ <;> simp
              clear R HL8
              obtain ⟨ki, hki⟩ : ∃ k, Hd (rd ks i = k) := ⟨_, hid rfl⟩
              obtain ⟨wi, hwi⟩ : ∃ k, Hd (rd ws i = k) := ⟨_, hid rfl⟩
              obtain ⟨rk, sk⟩ : W32 ki := by rw [← hki.out, ← hks.out]; exact shaK_W32 i
              obtain ⟨rw_, sw_⟩ : W32 wi := by rw [← hwi.out, ← hws.out]; exact rd_all (schedB_W32 b 48) zero_W32 _
              have CK : Hd (∀ {w'}, RV w w' g2 g4 g5 g6 gv h ks ws [x0, x1, x2, x3, x4, x5, x6, x7] → w'.cell? ⟨g5, i, none⟩ = some (.int .u32 ki)) := hid fun h => by rw [h.cellI 2 rfl i (by rw [HLk.out]; exact hlt), hki.out]
              have CW : Hd (∀ {w'}, RV w w' g2 g4 g5 g6 gv h ks ws [x0, x1, x2, x3, x4, x5, x6, x7] → w'.cell? ⟨g6, i, none⟩ = some (.int .u32 wi)) := hid fun h => by rw [h.cellI 1 rfl i (by rw [HLs.out]; exact hlt), hwi.out]
              have HST : Hd (stepS ws [x0, x1, x2, x3, x4, x5, x6, x7] i = [((x7 + Sig 6 11 25 x4 + bits .xor .u32 (bits .and .u32 x4 x5) (bits .and .u32 (bits .xor .u32 IntKind.u32.max x4) x6) + ki + wi) + Sig 2 13 22 x0 + bits .xor .u32 (bits .xor .u32 (bits .and .u32 x0 x1) (bits .and .u32 x0 x2)) (bits .and .u32 x1 x2)) % 4294967296, x0, x1, x2, (x3 + (x7 + Sig 6 11 25 x4 + bits .xor .u32 (bits .and .u32 x4 x5) (bits .and .u32 (bits .xor .u32 IntKind.u32.max x4) x6) + ki + wi)) % 4294967296, x4, x5, x6]) := hid (by unfold stepS oneS twoS; rw [hks.out, hki.out, hwi.out, ← Int.add_assoc]; rfl)
              try go_wp2_with fail
              refine wp_region_L (T := fun w' => RV w w' g2 g4 g5 g6 gv h ks ws [x0, x1, x2, x3, x4, x5, x6, x7]) (by kernel_rfl) (by kernel_rfl) hS.drew ?_
              intro wa hT
              show wpT _ _ _ _ [0, 1, 2, 3, 4, 5, 6, 7, 8, 9, 10, 11] _ _
              apply wpT_read (i := 0) rfl hT rfl
              · intro w' hT'
                simp only [getElem_toArray, getElem_cons_zero, getElem_cons_succ]
                go_wp2_with fail
                first | exact ⟨rfl, rfl, rfl⟩ | rfl
              apply wpT_read (i := 1) rfl hT rfl
              · intro w' hT'
                simp only [getElem_toArray, getElem_cons_zero, getElem_cons_succ]
                have cx4 : w'.cell? ⟨gv, 4, none⟩ = some (.int .u32 x4) := hT'.cell 0 rfl 4
                go_wp2_with fail
                first | exact ⟨rfl, rfl, rfl⟩ | rfl
              refine wpT_actL (i := 2) rfl rfl ?_
              simp only [getElem_toArray, getElem_cons_zero, getElem_cons_succ]
              go_wp2_with (first
                | (go_at_call 69; refine (rotr6_calls x4 _ r4 s4).mono ?_; rintro e w1 ⟨rfl, rfl⟩)
                | fail)
              refine OnT.mk rfl ?_ ?_
              · exact hT
              clear hT
              intro w17_2 hT
              apply wpT_read (i := 3) rfl hT rfl
              · intro w' hT'
                simp only [getElem_toArray, getElem_cons_zero, getElem_cons_succ]
                go_wp2_with fail
                first | exact ⟨rfl, rfl, rfl⟩ | rfl
              apply wpT_read (i := 4) rfl hT rfl
              · intro w' hT'
                simp only [getElem_toArray, getElem_cons_zero, getElem_cons_succ]
                have cx4 : w'.cell? ⟨gv, 4, none⟩ = some (.int .u32 x4) := hT'.cell 0 rfl 4
                go_wp2_with fail
                first | exact ⟨rfl, rfl, rfl⟩ | rfl
              refine wpT_actL (i := 5) rfl rfl ?_
              simp only [getElem_toArray, getElem_cons_zero, getElem_cons_succ]
              go_wp2_with (first
                | (go_at_call 69; refine (rotr11_calls x4 _ r4 s4).mono ?_; rintro e w1 ⟨rfl, rfl⟩)
                | fail)
              refine OnT.mk rfl ?_ ?_
              · exact hT
              clear hT
              intro w17_5 hT
              apply wpT_read (i := 6) rfl hT rfl
              · intro w' hT'
                simp only [getElem_toArray, getElem_cons_zero, getElem_cons_succ]
                go_wp2_with fail
                first | exact ⟨rfl, rfl, rfl⟩ | rfl
              apply wpT_read (i := 7) rfl hT rfl
              · intro w' hT'
                simp only [getElem_toArray, getElem_cons_zero, getElem_cons_succ]
                go_wp2_with fail
                first | exact ⟨rfl, rfl, rfl⟩ | rfl
              apply wpT_read (i := 8) rfl hT rfl
              · intro w' hT'
                simp only [getElem_toArray, getElem_cons_zero, getElem_cons_succ]
                have cx4 : w'.cell? ⟨gv, 4, none⟩ = some (.int .u32 x4) := hT'.cell 0 rfl 4
                go_wp2_with fail
                first | exact ⟨rfl, rfl, rfl⟩ | rfl
              refine wpT_actL (i := 9) rfl rfl ?_
              simp only [getElem_toArray, getElem_cons_zero, getElem_cons_succ]
              go_wp2_with (first
                | (go_at_call 69; refine (rotr25_calls x4 _ r4 s4).mono ?_; rintro e w1 ⟨rfl, rfl⟩)
                | fail)
              refine OnT.mk rfl ?_ ?_
              · exact hT
              clear hT
              intro wn hT
              apply wpT_read (i := 10) rfl hT rfl
              · intro w' hT'
                simp only [getElem_toArray, getElem_cons_zero, getElem_cons_succ]
                go_wp2_with fail
                first | exact ⟨rfl, rfl, rfl⟩ | rfl
              apply wpT_read (i := 11) rfl hT rfl
              · intro w' hT'
                simp only [getElem_toArray, getElem_cons_zero, getElem_cons_succ]
                go_wp2_with fail
                first | exact ⟨rfl, rfl, rfl⟩ | rfl
              refine wpT_end ?_
              try dsimp only
              replace hS := hT
              clear hT
              have cx4 : wn.cell? ⟨gv, 4, none⟩ = some (.int .u32 x4) := hS.cell 0 rfl 4
              have cx5 : wn.cell? ⟨gv, 5, none⟩ = some (.int .u32 x5) := hS.cell 0 rfl 5
              have cx6 : wn.cell? ⟨gv, 6, none⟩ = some (.int .u32 x6) := hS.cell 0 rfl 6
              have hsg : IntKind.u32.signed = false := rfl
              go_wp2_with fail
              clear hsg
              clear cx4 cx5 cx6
              try go_wp2_with fail
              refine wp_region_L (T := fun w' => RV w w' g2 g4 g5 g6 gv h ks ws [x0, x1, x2, x3, x4, x5, x6, x7]) (by kernel_rfl) (by kernel_rfl) hS.drew ?_
              intro wa hT
              show wpT _ _ _ _ [0, 1, 2, 3, 4, 5, 6, 7, 8, 9, 10, 11, 12, 13, 14] _ _
              apply wpT_read (i := 0) rfl hT rfl
              · intro w' hT'
                simp only [getElem_toArray, getElem_cons_zero, getElem_cons_succ]
                go_wp2_with fail
                first | exact ⟨rfl, rfl, rfl⟩ | rfl
              apply wpT_read (i := 1) rfl hT rfl
              · intro w' hT'
                simp only [getElem_toArray, getElem_cons_zero, getElem_cons_succ]
                have cx7 : w'.cell? ⟨gv, 7, none⟩ = some (.int .u32 x7) := hT'.cell 0 rfl 7
                have ck := CK.out hT'
                have cw := CW.out hT'
                go_wp2_with fail
                first | exact ⟨rfl, rfl, rfl⟩ | rfl
              apply wpT_read (i := 2) rfl hT rfl
              · intro w' hT'
                simp only [getElem_toArray, getElem_cons_zero, getElem_cons_succ]
                go_wp2_with fail
                first | exact ⟨rfl, rfl, rfl⟩ | rfl
              apply wpT_read (i := 3) rfl hT rfl
              · intro w' hT'
                simp only [getElem_toArray, getElem_cons_zero, getElem_cons_succ]
                go_wp2_with fail
                first | exact ⟨rfl, rfl, rfl⟩ | rfl
              apply wpT_read (i := 4) rfl hT rfl
              · intro w' hT'
                simp only [getElem_toArray, getElem_cons_zero, getElem_cons_succ]
                go_wp2_with fail
                first | exact ⟨rfl, rfl, rfl⟩ | rfl
              apply wpT_read (i := 5) rfl hT rfl
              · intro w' hT'
                simp only [getElem_toArray, getElem_cons_zero, getElem_cons_succ]
                go_wp2_with fail
                first | exact ⟨rfl, rfl, rfl⟩ | rfl
              apply wpT_read (i := 6) rfl hT rfl
              · intro w' hT'
                simp only [getElem_toArray, getElem_cons_zero, getElem_cons_succ]
                go_wp2_with fail
                first | exact ⟨rfl, rfl, rfl⟩ | rfl
              apply wpT_read (i := 7) rfl hT rfl
              · intro w' hT'
                simp only [getElem_toArray, getElem_cons_zero, getElem_cons_succ]
                go_wp2_with fail
                first | exact ⟨rfl, rfl, rfl⟩ | rfl
              apply wpT_read (i := 8) rfl hT rfl
              · intro w' hT'
                simp only [getElem_toArray, getElem_cons_zero, getElem_cons_succ]
                have cx7 : w'.cell? ⟨gv, 7, none⟩ = some (.int .u32 x7) := hT'.cell 0 rfl 7
                have ck := CK.out hT'
                have cw := CW.out hT'
                go_wp2_with fail
                first | exact ⟨rfl, rfl, rfl⟩ | rfl
              apply wpT_read (i := 9) rfl hT rfl
              · intro w' hT'
                simp only [getElem_toArray, getElem_cons_zero, getElem_cons_succ]
                go_wp2_with fail
                first | exact ⟨rfl, rfl, rfl⟩ | rfl
              apply wpT_read (i := 10) rfl hT rfl
              · intro w' hT'
                simp only [getElem_toArray, getElem_cons_zero, getElem_cons_succ]
                go_wp2_with fail
                first | exact ⟨rfl, rfl, rfl⟩ | rfl
              apply wpT_read (i := 11) rfl hT rfl
              · intro w' hT'
                simp only [getElem_toArray, getElem_cons_zero, getElem_cons_succ]
                go_wp2_with fail
                first | exact ⟨rfl, rfl, rfl⟩ | rfl
              apply wpT_read (i := 12) rfl hT rfl
              · intro w' hT'
                simp only [getElem_toArray, getElem_cons_zero, getElem_cons_succ]
                have cx7 : w'.cell? ⟨gv, 7, none⟩ = some (.int .u32 x7) := hT'.cell 0 rfl 7
                have ck := CK.out hT'
                have cw := CW.out hT'
                go_wp2_with fail
                first | exact ⟨rfl, rfl, rfl⟩ | rfl
              apply wpT_read (i := 13) rfl hT rfl
              · intro w' hT'
                simp only [getElem_toArray, getElem_cons_zero, getElem_cons_succ]
                go_wp2_with fail
                first | exact ⟨rfl, rfl, rfl⟩ | rfl
              apply wpT_read (i := 14) rfl hT rfl
              · intro w' hT'
                simp only [getElem_toArray, getElem_cons_zero, getElem_cons_succ]
                go_wp2_with fail
                first | exact ⟨rfl, rfl, rfl⟩ | rfl
              refine wpT_end ?_
              try dsimp only
              replace hS := hT
              clear hT
              try go_wp2_with fail
              refine wp_region_L (T := fun w' => RV w w' g2 g4 g5 g6 gv h ks ws [x0, x1, x2, x3, x4, x5, x6, x7]) (by kernel_rfl) (by kernel_rfl) hS.drew ?_
              intro wa hT
              show wpT _ _ _ _ [0, 1, 2, 3, 4, 5, 6, 7, 8, 9, 10, 11] _ _
              apply wpT_read (i := 0) rfl hT rfl
              · intro w' hT'
                simp only [getElem_toArray, getElem_cons_zero, getElem_cons_succ]
                go_wp2_with fail
                first | exact ⟨rfl, rfl, rfl⟩ | rfl
              apply wpT_read (i := 1) rfl hT rfl
              · intro w' hT'
                simp only [getElem_toArray, getElem_cons_zero, getElem_cons_succ]
                have cx0 : w'.cell? ⟨gv, 0, none⟩ = some (.int .u32 x0) := hT'.cell 0 rfl 0
                go_wp2_with fail
                first | exact ⟨rfl, rfl, rfl⟩ | rfl
              refine wpT_actL (i := 2) rfl rfl ?_
              simp only [getElem_toArray, getElem_cons_zero, getElem_cons_succ]
              go_wp2_with (first
                | (go_at_call 69; refine (rotr2_calls x0 _ r0 s0).mono ?_; rintro e w1 ⟨rfl, rfl⟩)
                | fail)
              refine OnT.mk rfl ?_ ?_
              · exact hT
              clear hT
              intro w20_2 hT
              apply wpT_read (i := 3) rfl hT rfl
              · intro w' hT'
                simp only [getElem_toArray, getElem_cons_zero, getElem_cons_succ]
                go_wp2_with fail
                first | exact ⟨rfl, rfl, rfl⟩ | rfl
              apply wpT_read (i := 4) rfl hT rfl
              · intro w' hT'
                simp only [getElem_toArray, getElem_cons_zero, getElem_cons_succ]
                have cx0 : w'.cell? ⟨gv, 0, none⟩ = some (.int .u32 x0) := hT'.cell 0 rfl 0
                go_wp2_with fail
                first | exact ⟨rfl, rfl, rfl⟩ | rfl
              refine wpT_actL (i := 5) rfl rfl ?_
              simp only [getElem_toArray, getElem_cons_zero, getElem_cons_succ]
              go_wp2_with (first
                | (go_at_call 69; refine (rotr13_calls x0 _ r0 s0).mono ?_; rintro e w1 ⟨rfl, rfl⟩)
                | fail)
              refine OnT.mk rfl ?_ ?_
              · exact hT
              clear hT
              intro w20_5 hT
              apply wpT_read (i := 6) rfl hT rfl
              · intro w' hT'
                simp only [getElem_toArray, getElem_cons_zero, getElem_cons_succ]
                go_wp2_with fail
                first | exact ⟨rfl, rfl, rfl⟩ | rfl
              apply wpT_read (i := 7) rfl hT rfl
              · intro w' hT'
                simp only [getElem_toArray, getElem_cons_zero, getElem_cons_succ]
                go_wp2_with fail
                first | exact ⟨rfl, rfl, rfl⟩ | rfl
              apply wpT_read (i := 8) rfl hT rfl
              · intro w' hT'
                simp only [getElem_toArray, getElem_cons_zero, getElem_cons_succ]
                have cx0 : w'.cell? ⟨gv, 0, none⟩ = some (.int .u32 x0) := hT'.cell 0 rfl 0
                go_wp2_with fail
                first | exact ⟨rfl, rfl, rfl⟩ | rfl
              refine wpT_actL (i := 9) rfl rfl ?_
              simp only [getElem_toArray, getElem_cons_zero, getElem_cons_succ]
              go_wp2_with (first
                | (go_at_call 69; refine (rotr22_calls x0 _ r0 s0).mono ?_; rintro e w1 ⟨rfl, rfl⟩)
                | fail)
              refine OnT.mk rfl ?_ ?_
              · exact hT
              clear hT
              intro wm hT
              apply wpT_read (i := 10) rfl hT rfl
              · intro w' hT'
                simp only [getElem_toArray, getElem_cons_zero, getElem_cons_succ]
                go_wp2_with fail
                first | exact ⟨rfl, rfl, rfl⟩ | rfl
              apply wpT_read (i := 11) rfl hT rfl
              · intro w' hT'
                simp only [getElem_toArray, getElem_cons_zero, getElem_cons_succ]
                go_wp2_with fail
                first | exact ⟨rfl, rfl, rfl⟩ | rfl
              refine wpT_end ?_
              try dsimp only
              replace hS := hT
              clear hT
              have cx0 : wm.cell? ⟨gv, 0, none⟩ = some (.int .u32 x0) := hS.cell 0 rfl 0
              have cx1 : wm.cell? ⟨gv, 1, none⟩ = some (.int .u32 x1) := hS.cell 0 rfl 1
              have cx2 : wm.cell? ⟨gv, 2, none⟩ = some (.int .u32 x2) := hS.cell 0 rfl 2
              have cx3 : wm.cell? ⟨gv, 3, none⟩ = some (.int .u32 x3) := hS.cell 0 rfl 3
              have cx4 : wm.cell? ⟨gv, 4, none⟩ = some (.int .u32 x4) := hS.cell 0 rfl 4
              have cx5 : wm.cell? ⟨gv, 5, none⟩ = some (.int .u32 x5) := hS.cell 0 rfl 5
              have cx6 : wm.cell? ⟨gv, 6, none⟩ = some (.int .u32 x6) := hS.cell 0 rfl 6
              go_wp2_with (first
                | (refine hs_storeW hS 0 rfl rfl 88 _ _ rfl rfl (ints .u32 (stepS ws [x0, x1, x2, x3, x4, x5, x6, x7] i)) (by rw [HST.out]; rfl) (ints_one' _ _) _ infoW8 (by rfl) (by rfl) _ rfl ?_
                   rw [← HX.out]; clear hS; intro wy hS)
                | fail)
              go_roundg (gk - 1)
              case measure => have := hq.out; omega
              case rel => exact ⟨i + 1, by omega, by go_num, hid (by have := hq.out; omega), hS⟩
            · obtain rfl : i = 64 := by omega
              have R := roundsS_W32 b h hh 64
              have HL8 := hid (roundsS_length b h HL.out 64)
              have HF : Hd (topS h (roundsS b h 64) 8 = shaBlock h b) := hid rfl
              generalize roundsS b h 64 = ss at *
              replace hS : RV w wr g2 g4 g5 g6 gv (topS h ss 0) ks ws ss := hS
              clear hlt hi hq
              go_wp2_with fail
              go_loopg [18] 9 (fun kq v18 wr => ∃ i : Nat, i ≤ 8 ∧ v18 = .int .i64 i ∧ Hd (kq + i = 9) ∧ RV w wr g2 g4 g5 g6 gv (topS h ss i) ks ws ss)
              case atStart => exact ⟨0, by omega, rfl, hid (by omega), hS⟩
              case round =>
                clear hS
                obtain ⟨i, hi, rfl, hq, hS⟩ := hrel
                by_cases hlt : i < 8
                · have hlt2 : (i : Int) < 8 := by omega
                  have HX := hid (topS_succ h ss i)
                  have HTL : Hd ((topS h ss i).length = 8) := hid (by simp [HL.out])
                  have e1 := topS_rd h ss i i (Nat.le_refl _)
                  generalize topS h ss i = ts at *
                  obtain ⟨x, hx⟩ : ∃ x, rd h i = x := ⟨_, rfl⟩
                  obtain ⟨y, hy⟩ : ∃ y, rd ss i = y := ⟨_, rfl⟩
                  obtain ⟨rx, sx⟩ : W32 x := hx ▸ rd_all hh zero_W32 _
                  obtain ⟨ry, sy⟩ : W32 y := hy ▸ rd_all R zero_W32 _
                  rw [hx] at e1
                  rw [hx, hy] at HX
                  have C1 : Hd (∀ {w'}, RV w w' g2 g4 g5 g6 gv ts ks ws ss → w'.cell? ⟨g2, i, none⟩ = some (.int .u32 x)) := hid fun h => by rw [h.cellI 4 rfl i (by rw [HTL.out]; exact hlt), e1]
                  have C2 : Hd (∀ {w'}, RV w w' g2 g4 g5 g6 gv ts ks ws ss → w'.cell? ⟨gv, i, none⟩ = some (.int .u32 y)) := hid fun h => by rw [h.cellI 0 rfl i (by rw [HL8.out]; exact hlt), hy]
                  clear e1 hx hy
                  try go_wp2_with fail
                  refine wp_region_L (T := fun w' => RV w w' g2 g4 g5 g6 gv ts ks ws ss) (by kernel_rfl) (by kernel_rfl) hS.drew ?_
                  intro wa hT
                  show wpT _ _ _ _ [0, 1, 2, 3, 4, 5, 6, 7, 8, 9] _ _
                  apply wpT_read (i := 0) rfl hT rfl
                  · intro w' hT'
                    simp only [getElem_toArray, getElem_cons_zero, getElem_cons_succ]
                    go_wp2_with fail
                    first | exact ⟨rfl, rfl, rfl⟩ | rfl
                  apply wpT_read (i := 1) rfl hT rfl
                  · intro w' hT'
                    simp only [getElem_toArray, getElem_cons_zero, getElem_cons_succ]
                    go_wp2_with fail
                    first | exact ⟨rfl, rfl, rfl⟩ | rfl
                  apply wpT_read (i := 2) rfl hT rfl
                  · intro w' hT'
                    simp only [getElem_toArray, getElem_cons_zero, getElem_cons_succ]
                    go_wp2_with fail
                    first | exact ⟨rfl, rfl, rfl⟩ | rfl
                  apply wpT_read (i := 3) rfl hT rfl
                  · intro w' hT'
                    simp only [getElem_toArray, getElem_cons_zero, getElem_cons_succ]
                    have c1 := C1.out hT'
                    have c2 := C2.out hT'
                    go_wp2_with fail
                    first | exact ⟨rfl, rfl, rfl⟩ | rfl
                  apply wpT_read (i := 4) rfl hT rfl
                  · intro w' hT'
                    simp only [getElem_toArray, getElem_cons_zero, getElem_cons_succ]
                    go_wp2_with fail
                    first | exact ⟨rfl, rfl, rfl⟩ | rfl
                  apply wpT_read (i := 5) rfl hT rfl
                  · intro w' hT'
                    simp only [getElem_toArray, getElem_cons_zero, getElem_cons_succ]
                    go_wp2_with fail
                    first | exact ⟨rfl, rfl, rfl⟩ | rfl
                  apply wpT_read (i := 6) rfl hT rfl
                  · intro w' hT'
                    simp only [getElem_toArray, getElem_cons_zero, getElem_cons_succ]
                    have c1 := C1.out hT'
                    have c2 := C2.out hT'
                    go_wp2_with fail
                    first | exact ⟨rfl, rfl, rfl⟩ | rfl
                  apply wpT_read (i := 7) rfl hT rfl
                  · intro w' hT'
                    simp only [getElem_toArray, getElem_cons_zero, getElem_cons_succ]
                    go_wp2_with fail
                    first | exact ⟨rfl, rfl, rfl⟩ | rfl
                  apply wpT_read (i := 8) rfl hT rfl
                  · intro w' hT'
                    simp only [getElem_toArray, getElem_cons_zero, getElem_cons_succ]
                    go_wp2_with fail
                    first | exact ⟨rfl, rfl, rfl⟩ | rfl
                  refine wpT_totL (i := 9) rfl rfl (by kernel_rfl) ?_
                  simp only [getElem_toArray, getElem_cons_zero, getElem_cons_succ]
                  have fz := hT.frozen 4 rfl i
                  have cc := C1.out hT
                  go_wp2_with fail
                  refine OnX.mk (fun w' => RV w w' g2 g4 g5 g6 gv (topS h ss (i + 1)) ks ws ss) rfl ?_ ?_
                  · rw [HX.out]; exact hT.setI 4 rfl i _
                  clear hT
                  clear fz cc
                  intro w26_9 hT
                  refine wpT_end ?_
                  try dsimp only
                  go_wp2_with fail
                  go_roundg (gk - 1)
                  case measure => have := hq.out; omega
                  case rel => exact ⟨i + 1, by omega, by go_num, hid (by have := hq.out; omega), hT⟩
                · obtain rfl : i = 8 := by omega
                  rw [HF.out] at hS
                  have HSB : Hd ((shaBlock h b).length = 8) := hid (by rw [shaBlock_length, HL.out])
                  obtain ⟨zs, hzs⟩ : ∃ zs, Hd (shaBlock h b = zs) := ⟨_, hid rfl⟩
                  rw [hzs.out] at hS HSB HF
                  clear hlt hi hq
                  go_wp2_with (first
                    | (refine hs_loadW hS 4 rfl rfl 88 _ rfl rfl 8 infoW8 (by simp [HSB.out]) _ arrW8 rfl _ rfl ?_)
                    | (refine hs_storeW hS 3 rfl rfl 88 _ _ rfl rfl (ints .u32 zs) rfl (ints_one' _ _) _ infoW8 (by simp [HSB.out]) (by simp) _ rfl ?_; clear hS; intro wb hS)
                    | fail)
                  exact bodyPost_ret (results_blk rfl _ _ g4 _ _ 8 _ rfl (hS.blk 3 rfl) arrW8 (by simp [HSB.out]) infoW8) rfl ⟨by rw [hzs.out], hS.bel⟩
end Go.Proofs.YtlikinglgegclaaDoor
/- s[p:h] of a slice, a slice's part read. -/
namespace Go.Cour
open Go.RowKit
section
variable {P : Program} {w : World} {ops : Array Oper} {rest : List Oper} {o : Oper} {a : Act} {Q : Exit → Act → World → Prop}
theorem slice_two (hw : Region.wanted o (yielded ops a.tmps) = true) (x y z : Operand) (t : TypeId) (ho : o.op = .slice t x (some y) (some z) none) (e : TypeId)
    (hu : P.underlying t = some (.slice e)) (hsz : (P.info? e).map (·.size) = some 1) (g off m c p h n : Nat) (hx : a.eval x = .slice (some ⟨g, off, none⟩) m c) (hy : a.eval y = .int .i64 (p : Int)) (hz : a.eval z = .int .i64 (h : Int)) (hph : p ≤ h) (hhc : h ≤ c) (hpc : p < c) (hn : h - p = n) (d : Option Tmp) (hd : o.dst = d)
    (hk : wpList P ops Q rest (a.put d (.slice (some ⟨g, off + p, none⟩) n (c - p))) w) : wpList P ops Q (o :: rest) a w := by
  subst hd hn
  obtain ⟨i, hi, hs⟩ : ∃ i, P.info? e = some i ∧ i.size = 1 := by
    cases hie : P.info? e with
    | none => simp [hie] at hsz
    | some i => exact ⟨i, rfl, by simpa [hie] using hsz⟩
  refine wpList_step fun K hK => ?_
  rw [if_pos hw]
  have hs2 : (sizeOf e).run P w = .ok 1 w := by simp [sizeOf, typeInfo, hi, hs]
  have hne : ¬ c = p := by omega
  have hrun : (Instr.slice t (.slice (some ⟨g, off, none⟩) m c) (some (.int .i64 (p : Int))) (some (.int .i64 (h : Int))) none).run P w = .ok (.slice (some ⟨g, off + p, none⟩) (h - p) (c - p)) w := by
    simp [Instr.slice, run_underlying hu, Instr.sliceBounds, run_sliceBound, hs2, hph, hhc, hne, add_lit]
  have hrun2 : (Instr.sliceAt t (.slice (some ⟨g, off, none⟩) m c) (some (.int .i64 (p : Int))) (some (.int .i64 (h : Int))) none).run P w = .ok (.slice (some ⟨g, off + p, none⟩) (h - p) (c - p)) w := by
    rw [← hrun]; simp [Instr.sliceAt, run_underlying hu]
  unfold Oper.wp execOp
  simp only [ho, hx, hy, hz, Option.map_some, Option.map_none]
  simp [hrun2]
  exact hK _ _ hk
end
end Go.Cour
/- The reference's digest. -/
namespace Go.Proofs.YtlikinglgegclaaDoor
open Go.RowKit Go.Cour
set_option maxHeartbeats 4000000 in
set_option maxRecDepth 100000 in
theorem sum1_calls (xs : List Int) (A : Option Addr) (m c : Nat) (w : World) (hm : xs.length = m) (hr : Rd w A .u8 xs) (hx : ∀ x ∈ xs, B8 x) (hsz : m ≤ 1000000) :
    Calls Tryd.prog 13 #[.slice A m c] w fun e w' => e = .returned (.agg (ints .u8 (shaOf xs)).toArray) ∧ Below w.heap.size w w' := by
  have HM := hid hm
  have HR := hid hr
  have HX8 := hid hx
  have hS := HS.start NoF w
  clear hm hr hx
  go_enter Tryd.func13, Tryd.ntmps13
  go_wp2_with (first
    | (refine alloc_blk rfl 30 rfl _ rfl (ints .u8 (List.replicate 32 0)) zeroHashS ?_; intro g2 w2 hga hba hBa hsa; replace hS := hS.pushBlk hBa hba hga; clear hga hba hBa hsa)
    | (go_at_call 23; refine (bytes_calls xs A c m _ HM.out.symm (hS.oldRd HR.out (fun _ _ _ h => h)) (by omega)).mono ?_; rintro e w3 ⟨v3, rfl, ho, hB⟩
       obtain ⟨A1, c1, rfl, hc1, hA1⟩ := ho.partsL HM.out
       replace hS := hS.pushOwn hB ho
       clear ho hB)
    | (refine hs_one hS rfl 24 5 _ rfl undBytesS sizeU8S zeroU8S (.int .u8 128) rfl rfl _ rfl ?_; clear hS; intro go wo hgo hBo hS; clear hgo hBo)
    | (refine hs_append hS 1 rfl rfl _ _ 24 rfl 1 undBytesS infoU8S zeroU8S rfl (some ⟨go, 0, none⟩) 1 1 rfl (ints .u8 [128]) rfl (news_of_rd (OwnS.rd (k := .u8) (xs := [128]) (hS.os 0 rfl) rfl)) (ints_one' _ _) (by rw [ints_length, HM.out]; omega) (by rw [ints_length, HM.out]; omega) _ rfl ?_
       clear hS; intro A3 n3 c3 w5 hn3 hc3 hA3 hS; have HN3 := hid hn3; clear hn3
       replace hS : HS NoF w w5 [.os 5 (.slice A3 n3 c3) (ints .u8 (xs ++ [128])), Z32 g2] := by rw [ints_append]; exact hS.erase 0)
    | fail)
  have HN3' : Hd (n3 = m + 1) := hid (by rw [← HN3.out, List.length_append, ints_length, ints_length, HM.out]; rfl)
  clear HN3 hc1 hA1
  go_loopg [3] (padZ m + 1) (fun kq v3 wr => ∃ (k : Nat) (A1 : Option Addr) (n1 c1 : Nat), k ≤ padZ m ∧ v3 = .slice A1 n1 c1 ∧ n1 ≤ c1 ∧ Hd (n1 = m + 1 + k) ∧ Hd (kq + k = padZ m + 1) ∧ HS NoF w wr [.os 5 (.slice A1 n1 c1) (ints .u8 (xs ++ [128] ++ List.replicate k 0)), Z32 g2])
  case atStart => exact ⟨0, A3, n3, c3, Nat.zero_le _, rfl, hc3, hid HN3'.out, hid (by omega), by simpa using hS⟩
  case round =>
    clear hS HN3' hA3 hc3
    obtain ⟨k, A1, n1, c1, hk, rfl, hnc1, hn1, hq, hS⟩ := hrel
    have hlt64 : m % 64 < 64 := Nat.mod_lt _ (by decide)
    have hpz : Hd (padZ m = (119 - m % 64) % 64) := hid rfl
    by_cases hlt : k < padZ m
    · have h56 : ¬ (n1 : Int) % 64 = 56 := by have := hn1.out; have := hpz.out; omega
      have h56' : ¬ n1 % 64 = 56 := by have := hn1.out; have := hpz.out; omega
      have hb1 : n1 ≤ 1000100 := by have := hn1.out; have := hpz.out; omega
      have HLT : Hd ((xs ++ [128] ++ List.replicate k 0).length = n1) := hid (by simp [HM.out]; have := hn1.out; omega)
      have HTS : Hd (xs ++ [128] ++ List.replicate k 0 ++ [0] = xs ++ [128] ++ List.replicate (k + 1) 0) := hid (by rw [List.append_assoc (xs ++ [128]), ← List.replicate_succ'])
      obtain ⟨ts, hts⟩ : ∃ ts, Hd (xs ++ [128] ++ List.replicate k 0 = ts) := ⟨_, hid rfl⟩
      rw [hts.out] at hS HLT HTS
      clear hlt64
      go_wp2_with (first
    | (refine hs_one hS rfl 24 5 _ rfl undBytesS sizeU8S zeroU8S (.int .u8 (0)) rfl rfl _ rfl ?_; clear hS; intro go wo hgo hBo hS; clear hgo hBo)
    | (refine hs_append hS 1 rfl rfl _ _ 24 rfl 1 undBytesS infoU8S zeroU8S rfl (some ⟨go, 0, none⟩) 1 1 rfl (ints .u8 [0]) rfl (news_of_rd (OwnS.rd (k := .u8) (xs := [0]) (hS.os 0 rfl) rfl)) (ints_one' _ _) (by rw [ints_length, HLT.out]; omega) (by rw [ints_length, HLT.out]; omega) _ rfl ?_
       clear hS; intro A3 n3 c3 w5 hn3 hc3 hA3 hS; have HN3 := hid hn3; clear hn3
       replace hS : HS NoF w w5 [.os 5 (.slice A3 n3 c3) (ints .u8 (ts ++ [0])), Z32 g2] := by rw [ints_append]; exact hS.erase 0)
    | fail)
      go_roundg (gk - 1)
      case measure => have := hq.out; omega
      case rel => exact ⟨k + 1, A3, n3, c3, by omega, rfl, hc3, hid (by have := HN3.out; have := hn1.out; have := HLT.out; simp at *; omega), hid (by have := hq.out; omega), HTS.out ▸ hS⟩
    · obtain rfl : k = padZ m := by omega
      have h56 : (n1 : Int) % 64 = 56 := by have := hn1.out; have := hpz.out; omega
      have h56' : n1 % 64 = 56 := by have := hn1.out; have := hpz.out; omega
      have hnb : Hd (n1 ≤ 1000100) := hid (by have := hn1.out; have := hpz.out; omega)
      clear hlt hk hq hlt64
      have hb1 : n1 ≤ 1000100 := hnb.out
      go_wp2_with fail
      clear h56 h56'
      have hN8 : Hd (padOf m = [128] ++ List.replicate (padZ m) 0 ++ lenBs m 8) := hid rfl
      go_loopg [3, 5] 9 (fun kq v3 v5 wr => ∃ (k : Nat) (A1 : Option Addr) (m1 c1 : Nat), k ≤ 8 ∧ v3 = .slice A1 m1 c1 ∧ m1 ≤ c1 ∧ v5 = .int .i64 (7 - (k : Int)) ∧ Hd (m1 = n1 + k) ∧ Hd (kq + k = 9) ∧ HS NoF w wr [.os 5 (.slice A1 m1 c1) (ints .u8 (xs ++ [128] ++ List.replicate (padZ m) 0 ++ lenBs m k)), Z32 g2])
      case atStart => exact ⟨0, A1, n1, c1, Nat.zero_le _, rfl, hnc1, rfl, hid rfl, hid (by omega), by simpa [lenBs] using hS⟩
      case round =>
        clear hS hnc1
        obtain ⟨k, A1, m1, c1, hk, rfl, hnc1, rfl, hm1, hq, hS⟩ := hrel
        by_cases hlt : k < 8
        · obtain ⟨t, ht⟩ : ∃ t : Nat, 7 - k = t := ⟨_, rfl⟩
          have e7 : 7 - (k : Int) = (t : Int) := by omega
          have e7' : Hd ((t : Int) - 1 = 7 - ((k + 1 : Nat) : Int)) := hid (by omega)
          obtain ⟨s, hs'⟩ : ∃ s : Nat, 8 * t = s := ⟨_, rfl⟩
          have e8 : 8 * (t : Int) = (s : Int) := by omega
          have ht0 : (0 : Int) ≤ t := by omega
          have hs64 : s ≤ 56 := by omega
          have hLB : Hd (lenB m k = (m : Int) * 8 / 2 ^ s % 256) := hid (by unfold lenB; rw [show 56 - 8 * k = s by omega])
          have HTS : Hd (xs ++ [128] ++ List.replicate (padZ m) 0 ++ lenBs m k ++ [(m : Int) * 8 / 2 ^ s % 256] = xs ++ [128] ++ List.replicate (padZ m) 0 ++ lenBs m (k + 1)) := hid (by rw [List.append_assoc, ← hLB.out, ← lenBs_succ])
          have HLT : Hd ((xs ++ [128] ++ List.replicate (padZ m) 0 ++ lenBs m k).length = m1) := hid (by simp [lenBs, HM.out]; have := hm1.out; have := hn1.out; omega)
          have hmb : m1 ≤ 1000200 := by have := hm1.out; have := hnb.out; omega
          obtain ⟨ts, hts⟩ : ∃ ts, Hd (xs ++ [128] ++ List.replicate (padZ m) 0 ++ lenBs m k = ts) := ⟨_, hid rfl⟩
          rw [hts.out] at hS HLT HTS
          clear hs' ht hb1
          go_wp2_with (first
    | (refine hs_one hS rfl 24 5 _ rfl undBytesS sizeU8S zeroU8S (.int .u8 ((m : Int) * 8 / 2 ^ s % 256)) rfl rfl _ rfl ?_; clear hS; intro go wo hgo hBo hS; clear hgo hBo)
    | (refine hs_append hS 1 rfl rfl _ _ 24 rfl 1 undBytesS infoU8S zeroU8S rfl (some ⟨go, 0, none⟩) 1 1 rfl (ints .u8 [(m : Int) * 8 / 2 ^ s % 256]) rfl (news_of_rd (OwnS.rd (k := .u8) (xs := [(m : Int) * 8 / 2 ^ s % 256]) (hS.os 0 rfl) rfl)) (ints_one' _ _) (by rw [ints_length, HLT.out]; omega) (by rw [ints_length, HLT.out]; omega) _ rfl ?_
       clear hS; intro A3 n3 c3 w5 hn3 hc3 hA3 hS; have HN3 := hid hn3; clear hn3
       replace hS : HS NoF w w5 [.os 5 (.slice A3 n3 c3) (ints .u8 (ts ++ [(m : Int) * 8 / 2 ^ s % 256])), Z32 g2] := by rw [ints_append]; exact hS.erase 0)
    | fail)
          go_roundg (gk - 1)
          case measure => have := hq.out; omega
          case rel => exact ⟨k + 1, A3, n3, c3, by omega, rfl, hc3, by rw [e7'.out], hid (by have h1 := HN3.out; have h2 := hm1.out; have h3 := HLT.out; simp at h1; omega), hid (by have := hq.out; omega), HTS.out ▸ hS⟩
        · obtain rfl : k = 8 := by omega
          have HPAD : Hd (xs ++ [128] ++ List.replicate (padZ m) 0 ++ lenBs m 8 = xs ++ padOf m) := hid (by rw [hN8.out]; simp)
          rw [HPAD.out] at hS
          have HPB : Hd (∀ x ∈ xs ++ padOf m, B8 x) := hid fun x hx => by
            rcases List.mem_append.1 hx with hx | hx
            · exact HX8.out x hx
            · exact padOf_B8 m x hx
          have HP64 : Hd ((xs ++ padOf m).length % 64 = 0) := hid (by rw [List.length_append, HM.out]; exact padOf_length m)
          have HPL : Hd ((xs ++ padOf m).length = m1) := hid (by rw [← HPAD.out]; simp [lenBs, HM.out]; have := hm1.out; have := hn1.out; omega)
          have HEQ : Hd (shaOf xs = outSh (blocksS shaH0 (xs ++ padOf m) ((xs ++ padOf m).length / 64)) 32) := hid (by unfold shaOf; rw [HM.out])
          obtain ⟨ps, hps⟩ : ∃ ps, Hd (xs ++ padOf m = ps) := ⟨_, hid rfl⟩
          rw [hps.out] at hS HPB HP64 HPL HEQ
          obtain ⟨Q, hQ⟩ : ∃ Q, Hd (ps.length / 64 = Q) := ⟨_, hid rfl⟩
          rw [hQ.out] at HEQ
          have HQ : Hd (m1 = 64 * Q) := hid (by have := HPL.out; have := HP64.out; have := hQ.out; omega)
          have hmb : m1 ≤ 1000200 := by have := hm1.out; have := hnb.out; omega
          have hneg : (7 : Int) - (8 : Nat) = -1 := by decide
          clear hlt hk hm1 hn1 hnb hN8 hq hb1
          go_wp2_with (first
            | (refine wpList_buildFlatArr rfl 88 29 8 _ rfl .u32 shaH0 arrW8 sizeU32 (by kernel_rfl) (by rfl) ?_)
            | (refine alloc_blk rfl 88 rfl _ rfl (ints .u32 (List.replicate 8 0)) zeroW8 ?_; intro g6 w7 hga hba hBa hsa; replace hS := hS.pushBlk hBa hba hga; clear hga hba hBa hsa)
            | (refine hs_storeW hS 0 rfl rfl 88 _ _ rfl rfl (ints .u32 shaH0) rfl (ints_one' _ _) _ infoW8 (by rfl) (by simp) _ rfl ?_; clear hS; intro wb hS)
            | fail)
          replace hS : HS NoF w wb [.blk g6 88 (ints .u32 (blocksS shaH0 ps 0)), .os 5 (.slice A1 m1 c1) (ints .u8 ps), Z32 g2] := hS
          clear hneg HPAD
          go_loopg [7] (Q + 1) (fun kq v7 wr => ∃ (q p : Nat), q ≤ Q ∧ p = 64 * q ∧ v7 = .int .i64 p ∧ Hd (kq + q = Q + 1) ∧ HS NoF w wr [.blk g6 88 (ints .u32 (blocksS shaH0 ps q)), .os 5 (.slice A1 m1 c1) (ints .u8 ps), Z32 g2])
          case atStart => exact ⟨0, 0, Nat.zero_le _, rfl, rfl, hid (by omega), hS⟩
          case round =>
            clear hS
            obtain ⟨q, p, hqQ, hp, rfl, hq, hS⟩ := hrel
            have HP := hid hp
            clear hp
            by_cases hlt : q < Q
            · have hpm : p < m1 := by have := HP.out; have := HQ.out; omega
              have hpm2 : (p : Int) < m1 := by omega
              have hp64 : p + 64 ≤ m1 := by have := HP.out; have := HQ.out; omega
              obtain ⟨g, o, rfl⟩ := ((hS.os 1 rfl).rd rfl).at (by rw [HPL.out]; omega)
              have HX := hid (blocksS_succ shaH0 ps q)
              rw [← HP.out] at HX
              have HATf : Hd (∀ {w'}, HS NoF w w' [.blk g6 88 (ints .u32 (blocksS shaH0 ps q)), .os 5 (.slice (some ⟨g, o, none⟩) m1 c1) (ints .u8 ps), Z32 g2] → At w' g (o + p) ((ps.drop p).take 64) 64) := hid fun h i hi => by
                rw [rd_take _ _ _ hi, rd_drop, Nat.add_assoc]
                exact ((h.os 1 rfl).rd rfl).cellAt (p + i) (by rw [HPL.out]; omega)
              have hr8 : Hd (∀ i, 0 ≤ rd ((ps.drop p).take 64) i ∧ rd ((ps.drop p).take 64) i < 256) := hid (rd_all (P := B8) (fun x hx => HPB.out x (List.mem_of_mem_drop (List.mem_of_mem_take hx))) zero_B8)
              have HBL := hid (blocksS_length shaH0 ps (by rfl) q)
              have HBW := hid (blocksS_W32 shaH0 ps shaH0_W32 q)
              obtain ⟨bs, hbs⟩ : ∃ bs, Hd (blocksS shaH0 ps q = bs) := ⟨_, hid rfl⟩
              obtain ⟨ns, hns⟩ : ∃ ns, Hd (shaBlock bs ((ps.drop p).take 64) = ns) := ⟨_, hid rfl⟩
              rw [hbs.out] at hS HX HATf HBL HBW
              have HNL : Hd (ns.length = 8) := hid (by rw [← hns.out, shaBlock_length, HBL.out])
              rw [hns.out] at HX
              try go_wp2_with fail
              refine wp_region_S (F := NoF) (w0 := w) (L0 := [.blk g6 88 (ints .u32 bs), .os 5 (.slice (some ⟨g, o, none⟩) m1 c1) (ints .u8 ps), Z32 g2]) [6] [7]
                (fun iK u E => match iK with
                  | 6 => u = .agg (ints .u32 ns).toArray ∧ E = []
                  | _ => False)
                ([]) (by kernel_rfl) (by kernel_rfl) hS ?_
              show wpS _ _ _ _ _ _ _ _ _ _ [0, 1, 2, 3, 4, 5, 6, 7] _
              apply wpS_read (i := 0) rfl rfl ⟨_, hS⟩ rfl
              · intro w' hT'
                simp only [getElem_toArray, getElem_cons_zero, getElem_cons_succ]
                go_wp2_with (first
                  | (refine hs_loadW hT' 0 rfl rfl 88 _ rfl rfl 8 infoW8 (by simp [HBL.out]) _ arrW8 rfl _ rfl ?_)
                  | (refine slice_two rfl _ _ _ 24 rfl 5 undBytesS sizeU8S g o m1 c1 p (p + 64) 64 rfl rfl rfl (by omega) (by omega) (by omega) (by omega) _ rfl ?_)
                  | fail)
                first | exact ⟨rfl, rfl, rfl⟩ | rfl
              apply wpS_read (i := 1) rfl rfl ⟨_, hS⟩ rfl
              · intro w' hT'
                simp only [getElem_toArray, getElem_cons_zero, getElem_cons_succ]
                go_wp2_with fail
                first | exact ⟨rfl, rfl, rfl⟩ | rfl
              apply wpS_read (i := 2) rfl rfl ⟨_, hS⟩ rfl
              · intro w' hT'
                simp only [getElem_toArray, getElem_cons_zero, getElem_cons_succ]
                go_wp2_with fail
                first | exact ⟨rfl, rfl, rfl⟩ | rfl
              apply wpS_read (i := 3) rfl rfl ⟨_, hS⟩ rfl
              · intro w' hT'
                simp only [getElem_toArray, getElem_cons_zero, getElem_cons_succ]
                go_wp2_with fail
                first | exact ⟨rfl, rfl, rfl⟩ | rfl
              apply wpS_read (i := 4) rfl rfl ⟨_, hS⟩ rfl
              · intro w' hT'
                simp only [getElem_toArray, getElem_cons_zero, getElem_cons_succ]
                go_wp2_with (first
                  | (refine hs_loadW hT' 0 rfl rfl 88 _ rfl rfl 8 infoW8 (by simp [HBL.out]) _ arrW8 rfl _ rfl ?_)
                  | (refine slice_two rfl _ _ _ 24 rfl 5 undBytesS sizeU8S g o m1 c1 p (p + 64) 64 rfl rfl rfl (by omega) (by omega) (by omega) (by omega) _ rfl ?_)
                  | fail)
                first | exact ⟨rfl, rfl, rfl⟩ | rfl
              apply wpS_read (i := 5) rfl rfl ⟨_, hS⟩ rfl
              · intro w' hT'
                simp only [getElem_toArray, getElem_cons_zero, getElem_cons_succ]
                go_wp2_with (first
                  | (refine hs_loadW hT' 0 rfl rfl 88 _ rfl rfl 8 infoW8 (by simp [HBL.out]) _ arrW8 rfl _ rfl ?_)
                  | (refine slice_two rfl _ _ _ 24 rfl 5 undBytesS sizeU8S g o m1 c1 p (p + 64) 64 rfl rfl rfl (by omega) (by omega) (by omega) (by omega) _ rfl ?_)
                  | fail)
                first | exact ⟨rfl, rfl, rfl⟩ | rfl
              refine wpS_soft (i := 6) rfl rfl rfl (Nat.le_of_ble_eq_true rfl) ?_ ?_
              · intro w' hT
                simp only [getElem_toArray, getElem_cons_zero, getElem_cons_succ]
                go_wp2_with (first
                  | (go_at_call 40; refine (round1_calls bs ((ps.drop p).take 64) g (o + p) 64 (c1 - p) _ HBL.out HBW.out (HATf.out hT) hr8.out (Nat.le_refl _)).mono ?_; rintro e wz ⟨rfl, hB⟩; rw [hns.out])
                  | fail)
                exact SoftP.mk' (.agg (ints .u32 ns).toArray) ([]) rfl (⟨rfl, rfl⟩) (hT.below hB) (hB) (fun _ h => by cases h)
              intro u6 E6 hK6
              obtain ⟨rfl, rfl⟩ := hK6
              simp only [Act.put, List.setIfInBounds_toArray, List.set_cons_zero, List.set_cons_succ]
              refine wpS_tot (i := 7) rfl rfl (by kernel_rfl) ?_
              intro w7 hT
              replace hT : HS NoF w w7 [.blk g6 88 (ints .u32 bs), .os 5 (.slice (some ⟨g, o, none⟩) m1 c1) (ints .u8 ps), Z32 g2] := hT
              simp only [getElem_toArray, getElem_cons_zero, getElem_cons_succ]
              go_wp2_with (first
                | (refine hs_storeW hT 0 rfl rfl 88 _ _ rfl rfl (ints .u32 ns) rfl (ints_one' _ _) _ infoW8 (by simp [HNL.out]) (by simp [HBL.out]) _ rfl ?_; clear hT; intro wz hT)
                | fail)
              refine TotP.mk' ([.blk g6 88 (ints .u32 ns), .os 5 (.slice (some ⟨g, o, none⟩) m1 c1) (ints .u8 ps), Z32 g2]) rfl ?_ ?_
              · exact hT
              clear hT
              refine wpS_end ?_
              intro wz hT
              try dsimp only
              have HPP : Hd (p + 64 = 64 * (q + 1)) := hid (by have := HP.out; omega)
              rw [← HX.out] at hT
              go_wp2_with fail
              go_roundg (gk - 1)
              case measure => have := hq.out; omega
              case rel => exact ⟨q + 1, p + 64, by omega, HPP.out, by go_num, hid (by have := hq.out; omega), hT⟩
            · obtain rfl : q = Q := by omega
              have hpe : p = m1 := by have := HP.out; have := HQ.out; omega
              have hpm2 : ¬ (p : Int) < m1 := by omega
              have hpm3 : (m1 : Int) ≤ p := by omega
              clear hpe
              obtain ⟨hz, hhz⟩ : ∃ hz, Hd (blocksS shaH0 ps q = hz) := ⟨_, hid rfl⟩
              have HZL : Hd (hz.length = 8) := hid (hhz.out ▸ blocksS_length shaH0 ps (by rfl) _)
              have HZW : Hd (∀ x ∈ hz, W32 x) := hid (hhz.out ▸ blocksS_W32 shaH0 ps shaH0_W32 _)
              rw [hhz.out] at hS HEQ
              clear hlt hqQ hq
              go_wp2_with (first
                | (refine alloc_blk rfl 30 rfl _ rfl (ints .u8 (List.replicate 32 0)) zeroHashS ?_; intro g8 w8 hga hba hBa hsa; replace hS := hS.pushBlk hBa hba hga; clear hga hba hBa hsa)
                | fail)
              replace hS : HS NoF w w8 [.blk g8 30 (ints .u8 (outSh hz 0)), .blk g6 88 (ints .u32 hz), .os 5 (.slice A1 m1 c1) (ints .u8 ps), Z32 g2] := hS
              clear hpm2 hpm3
              go_loopg [9] 33 (fun kq v9 wr => ∃ k : Nat, k ≤ 32 ∧ v9 = .int .i64 k ∧ Hd (kq + k = 33) ∧ HS NoF w wr [.blk g8 30 (ints .u8 (outSh hz k)), .blk g6 88 (ints .u32 hz), .os 5 (.slice A1 m1 c1) (ints .u8 ps), Z32 g2])
              case atStart => exact ⟨0, by omega, rfl, hid (by omega), hS⟩
              case round =>
                clear hS
                obtain ⟨k, hk, rfl, hq, hS⟩ := hrel
                by_cases hlt : k < 32
                · have hlt2 : (k : Int) < 32 := by omega
                  obtain ⟨j, hj⟩ : ∃ j : Nat, k / 4 = j := ⟨_, rfl⟩
                  obtain ⟨r, hr⟩ : ∃ r : Nat, k % 4 = r := ⟨_, rfl⟩
                  obtain ⟨s, hs'⟩ : ∃ s : Nat, 24 - 8 * r = s := ⟨_, rfl⟩
                  have e1 : (k : Int) / 4 = (j : Int) := by omega
                  have e2 : (k : Int) % 4 = (r : Int) := by omega
                  have e3 : 24 - 8 * (r : Int) = (s : Int) := by omega
                  have hj8 : j < 8 := by omega
                  have hr4 : r < 4 := by omega
                  have hs24 : s ≤ 24 := by omega
                  have HX := hid (outSh_succ hz k)
                  have HB1 : Hd (outB hz k = rd hz j / 2 ^ s % 256) := hid (by unfold outB; rw [hj, hr, hs'])
                  obtain ⟨x, hx⟩ : ∃ x, rd hz j = x := ⟨_, rfl⟩
                  obtain ⟨rx, sx⟩ : W32 x := hx ▸ rd_all HZW.out zero_W32 _
                  rw [hx] at HB1
                  have cx : wr.cell? ⟨g6, j, none⟩ = some (.int .u32 x) := by rw [hS.cellI 1 rfl j (by rw [HZL.out]; omega), hx]
                  clear hj hr hs' hx
                  go_wp2_with (first
                    | (refine hs_store1 hS 0 rfl rfl 5 _ _ rfl k rfl (.int .u8 (x / 2 ^ s % 256)) rfl rfl sizeU8S (by simp; omega) _ rfl ?_
                       clear hS cx; intro w8 hS; rw [ints_set, ← HB1.out, ← HX.out] at hS)
                    | fail)
                  go_roundg (gk - 1)
                  case measure => have := hq.out; omega
                  case rel => exact ⟨k + 1, by omega, by go_num, hid (by have := hq.out; omega), hS⟩
                · obtain rfl : k = 32 := by omega
                  rw [← HEQ.out] at hS
                  have HLL : Hd ((shaOf xs).length = 32) := hid (shaOf_length xs)
                  obtain ⟨ds, hds⟩ : ∃ ds, Hd (shaOf xs = ds) := ⟨_, hid rfl⟩
                  rw [hds.out] at hS HLL HEQ
                  clear hlt hk hq
                  go_wp2_with (first
                    | (refine hs_loadW hS 0 rfl rfl 30 _ rfl rfl 32 infoHashS (by simp [HLL.out]) _ arrHashS rfl _ rfl ?_)
                    | (refine hs_storeW hS 3 rfl rfl 30 _ _ rfl rfl (ints .u8 ds) rfl (ints_one' _ _) _ infoHashS (by simp [HLL.out]) (by simp) _ rfl ?_; clear hS; intro w9 hS)
                    | fail)
                  refine bodyPost_ret (results_blk rfl _ _ g2 _ _ 32 _ rfl (hS.blk 3 rfl) arrHashS (by simp [HLL.out]) infoHashS) rfl ⟨by rw [hds.out], hS.bel⟩
end Go.Proofs.YtlikinglgegclaaDoor
/- What lies in a stretch of memory as it lay in another world. -/
namespace Go.Cour
open Go.RowKit
/-- The blocks from B on that w1 has are as they are in w1. -/
def Ent.snap (B : Nat) (w1 : World) : Ent where
  F := fun k => B ≤ k ∧ k < w1.heap.size
  p := fun w => ∀ k, B ≤ k → k < w1.heap.size → w.heap[k]? = w1.heap[k]?
  lt := fun {w} h k hk => by
    have h2 := h k hk.1 hk.2
    rw [Array.getElem?_eq_getElem hk.2] at h2
    exact (Array.getElem?_eq_some_iff.1 h2).1
  kept := fun h hk k h1 h2 => (hk k ⟨h1, h2⟩).trans (h k h1 h2)
section
variable {w w' w1 w0 : World} {L : List Ent} {F : Nat → Prop} {B : Nat}
theorem HS.pushSnap (h : HS F w0 w L) (hb : Below w.heap.size w w') : HS F w0 w' (.snap w.heap.size w' :: L) :=
  h.push hb _ (fun _ _ _ => rfl) fun _ hk => hk.1
theorem HS.snap (h : HS F w0 w L) (i : Nat) (hi : L[i]? = some (.snap B w1)) : ∀ k, B ≤ k → k < w1.heap.size → w.heap[k]? = w1.heap[k]? := h.mem.get hi
theorem Own.snap {e : TypeId} {k : IntKind} {v : Value} {xs : List Int} (h : Own w1 B e k v xs) (hs : ∀ k, B ≤ k → k < w1.heap.size → w.heap[k]? = w1.heap[k]?) : Own w B e k v xs :=
  h.kept' fun j hj => hs j (h.base_le j hj) (h.lt_size j hj)
theorem OwnV.snap {e : TypeId} {v : Value} {cs : List Value} (h : OwnV w1 B e v cs) (hs : ∀ k, B ≤ k → k < w1.heap.size → w.heap[k]? = w1.heap[k]?) : OwnV w B e v cs :=
  h.kept' fun j hj => hs j (h.base_le j hj) (h.lt_size j hj)
theorem OwnL.snap {e e1 : TypeId} {k : IntKind} {v : Value} {xss : List (List Int)} (h : OwnL w1 B e e1 k v xss) (hs : ∀ k, B ≤ k → k < w1.heap.size → w.heap[k]? = w1.heap[k]?) : OwnL w B e e1 k v xss := by
  obtain ⟨cs, h1, h2, h3⟩ := h
  exact ⟨cs, OwnV.snap h1 hs, h2, fun j hj => Own.snap (h3 j hj) hs⟩
end
end Go.Cour
/- Literals of two, of three. -/
namespace Go.Cour
open Go.RowKit
/-- A literal of 2. -/
theorem hs_lit2 {P : Program} {ops : Array Oper} {rest : List Oper} {o : Oper} {a : Act} {w w0 : World} {Q : Exit → Act → World → Prop} {F : Nat → Prop} {L : List Ent} (hS : HS F w0 w L) (hw : Region.wanted o (yielded ops a.tmps) = true) (t e : TypeId) (x0 x1 : Operand) (ho : o.op = .buildSlice t 2 #[(0, x0), (1, x1)])
    (hu : P.underlying t = some (.slice e)) (hf : (P.info? e).map (·.size) = some 1) (hz : (((P.info? e).bind (·.zero)).map (·.cells.size)) = some 1) (v0 v1 : Value) (hv0 : a.eval x0 = v0) (hv1 : a.eval x1 = v1) (q0 : v0.oneCell' = true) (q1 : v1.oneCell' = true) (d : Option Tmp) (hd : o.dst = d)
    (h : ∀ g w', w.heap.size = g → Below w.heap.size w w' → HS F w0 w' (.os e (.slice (some ⟨g, 0, none⟩) 2 2) [v0, v1] :: L) → wpList P ops Q rest (a.put d (.slice (some ⟨g, 0, none⟩) 2 2)) w') : wpList P ops Q (o :: rest) a w := by
  subst hd
  have hB : Below w.heap.size w (w.alloc (.cells (#[v0, v1] : Array Value) e)) := (Below.refl _ _).alloc (Nat.le_refl _) _
  have hb : Blk (w.alloc (.cells (#[v0, v1] : Array Value) e)) w.heap.size e [v0, v1] := Blk.new w e [v0, v1]
  have h2 := h w.heap.size _ rfl hB (hS.push hB (.os e (.slice (some ⟨w.heap.size, 0, none⟩) 2 2) [v0, v1]) (OwnS.ofBlk hb (by unfold maxLen; simp)) (fun k hk => Nat.le_of_eq (by simpa [Ent.os, Value.ownBlock] using hk)))
  have hc0 : v0.cells = #[v0] := by cases v0 <;> first | rfl | cases q0
  have hc1 : v1.cells = #[v1] := by cases v1 <;> first | rfl | cases q1
  cases hie : P.info? e with
  | none => simp [hie] at hf
  | some ie =>
    have hsz : ie.size = 1 := by simpa [hie] using hf
    cases hzz : ie.zero with
    | none => simp [hie, hzz] at hz
    | some z =>
      have hz1 : z.cells.size = 1 := by simpa [hie, hzz] using hz
      refine wpList_step fun K hK => ?_
      rw [if_pos hw]
      refine wp_buildSlice t e 2 #[(0, x0), (1, x1)] ho #[v0, v1] ie z hu hie hzz (by rw [hsz]; decide) (by rw [hsz]; decide) ?_ (hK _ _ h2)
      have e1 : ∀ xs : Array Value, xs.size = 2 → ((xs.setIfInBounds 0 v0).setIfInBounds 1 v1) = #[v0, v1] := fun xs hx => by
        rcases xs with ⟨l⟩
        match l, hx with
        | [y0, y1], _ => rfl
      simp [hsz, hv0, hv1, Instr.fill, hc0, hc1, e1]
end Go.Cour
