/- The program's numbers of the rounds; a block taken in. -/
import Derived.Test.YtinpilfnnmkpoaaDoorShaC
import Derived.Test.YtinpilfnnmkpoaaDoorHL
import Derived.Test.YtinpilfnnmkpoaaDoorReg
namespace Go.Proofs.YtinpilfnnmkpoaaDoor
open Go.RowKit Go.Cour
theorem infoW8 : (Tryd.prog.info? 74).map (·.size) = some 8 := by kernel_rfl
theorem arrW8 : Tryd.prog.underlying 74 = some (.array 8 73) := by kernel_rfl
theorem zeroW8 : ((Tryd.prog.info? 74).bind (·.zero)).map (·.cells) = some (ints .u32 (List.replicate 8 0)).toArray := by kernel_rfl
theorem sizeU32 : (Tryd.prog.info? 73).map (·.size) = some 1 := by kernel_rfl
set_option maxRecDepth 100000 in
theorem round_calls (w : World) :
    Calls Tryd.prog 53 #[] w fun e w' => e = .returned (.agg (ints .u32 shaK).toArray) ∧ Below w.heap.size w w' := by
  have hS := HS.start NoF w
  go_enter Tryd.func53, Tryd.ntmps53
  go_wp2_with (first
    | (refine alloc_blk rfl 84 rfl _ rfl (ints .u32 (List.replicate 64 0)) zeroW64 ?_; intro gr w2 hga hba hBa hsa; replace hS := hS.pushBlk hBa hba hga; clear hga hba hBa hsa)
    | (refine wpList_buildFlatArr rfl 84 73 64 _ rfl .u32 shaK arrW64 sizeU32 (by kernel_rfl) (by rfl) ?_)
    | (refine hs_storeN hS 0 rfl rfl 84 _ _ rfl 0 rfl (ints .u32 shaK) rfl (ints_one' _ _) 64 infoW64 (by rfl) (by simp) _ rfl ?_; intro w9 hS)
    | fail)
  have hb := hS.blk 0 rfl
  simp only [List.take_zero, List.nil_append, Nat.zero_add] at hb
  rw [List.drop_eq_nil_of_le (by simp), List.append_nil] at hb
  exact bodyPost_ret (results_blk rfl _ _ gr _ _ 64 _ rfl hb arrW64 (by rfl) infoW64) rfl ⟨rfl, hS.bel⟩
/-- What the blocks of mix hold. -/
abbrev MS (w wr : World) (gh g4 g5 g6 : Nat) (h ws ks s : List Int) (vr vn : Value) : Prop :=
  HS (fun k => k = gh) w wr [.blk g6 74 (ints .u32 s), .blk g5 84 (ints .u32 ks), .blk g4 84 (ints .u32 ws), .blk gh 94 (ints .u32 h ++ [vr, vn])]
set_option maxHeartbeats 2000000 in
set_option maxRecDepth 100000 in
theorem mix_calls (h b : List Int) (gh g o n c : Nat) (vr vn : Value) (w : World) (hb : Blk w gh 94 (ints .u32 h ++ [vr, vn])) (hl : h.length = 8) (hh : ∀ x ∈ h, W32 x) (hat : At w g o b 64) (hne : g ≠ gh) (hr : ∀ i, 0 ≤ rd b i ∧ rd b i < 256) (hn : 64 ≤ n) :
    Calls Tryd.prog 49 #[.pointer (some ⟨gh, 0, none⟩), .slice (some ⟨g, o, none⟩) n c] w fun e w' => e = .returned (.tuple #[]) ∧ Upd (fun k => k = gh) w w' ∧ Blk w' gh 94 (ints .u32 (shaBlock h b) ++ [vr, vn]) := by
  have HAT := hid hat
  have HR := hid hr
  have hS := (HS.start (fun k => k = gh) w).take (.blk gh 94 (ints .u32 h ++ [vr, vn])) hb (fun k hk => .inl hk) (fun f hf => by simp at hf)
  have HL := hid hl
  obtain ⟨ws, hws⟩ : ∃ ws, Hd (sched b = ws) := ⟨_, hid rfl⟩
  obtain ⟨ks, hks⟩ : ∃ ks, Hd (shaK = ks) := ⟨_, hid rfl⟩
  have HLs : Hd (ws.length = 64) := hid (by rw [← hws.out]; exact schedB_length b 48)
  have HLk : Hd (ks.length = 64) := hid (by rw [← hks.out]; rfl)
  clear hat hr hb hl
  go_enter Tryd.func49, Tryd.ntmps49
  try go_wp2_with fail
  refine wp_region_S (F := (fun k => k = gh)) (w0 := w) (L0 := [.blk gh 94 (ints .u32 h ++ [vr, vn])]) [1, 2, 7, 8, 9] [10, 11, 12]
    (fun iK u E => match iK with
      | 1 => u = .agg (ints .u32 ws).toArray ∧ E = []
      | 2 => u = .agg (ints .u32 ks).toArray ∧ E = []
      | 7 => ∃ g, u = .pointer (some ⟨g, 0, none⟩) ∧ E = [.blk g 84 (ints .u32 (List.replicate 64 0))]
      | 8 => ∃ g, u = .pointer (some ⟨g, 0, none⟩) ∧ E = [.blk g 84 (ints .u32 (List.replicate 64 0))]
      | 9 => ∃ g, u = .pointer (some ⟨g, 0, none⟩) ∧ E = [.blk g 74 (ints .u32 (List.replicate 8 0))]
      | _ => False)
    ([]) (by kernel_rfl) (by kernel_rfl) hS ?_
  show wpS _ _ _ _ _ _ _ _ _ _ [0, 1, 2, 3, 4, 5, 6, 7, 8, 9, 10, 11, 12] _
  apply wpS_read (i := 0) rfl rfl ⟨_, hS⟩ rfl -- Op.move t1
  · intro w' hT'
    simp only [List.getElem_toArray, List.getElem_cons_zero, List.getElem_cons_succ]
    go_wp2_with fail
    first | exact ⟨rfl, rfl, rfl⟩ | rfl
  refine wpS_soft (i := 1) rfl rfl rfl (Nat.le_of_ble_eq_true rfl) ?_ ?_ -- Op.call { value (Operand.func 52), args := #[t13], argTypes := #[41]
  · intro w' hT
    simp only [List.getElem_toArray, List.getElem_cons_zero, List.getElem_cons_succ]
    go_wp2_with (first
      | (go_at_call 52; refine (words_calls b g o n c _ (fun i hi => hT.oldCell (HAT.out i hi) hne) HR.out hn).mono ?_; rintro e wz ⟨rfl, hB⟩; rw [hws.out])
      | fail)
    exact SoftP.mk' (.agg (ints .u32 ws).toArray) ([]) rfl (⟨rfl, rfl⟩) (hT.below hB) (hB) (fun _ h => by cases h)
  intro u1 E1 hK1
  obtain ⟨rfl, rfl⟩ := hK1
  simp only [Act.put, List.setIfInBounds_toArray, List.set_cons_zero, List.set_cons_succ]
  refine wpS_soft (i := 2) rfl rfl rfl (Nat.le_of_ble_eq_true rfl) ?_ ?_ -- Op.call { value (Operand.func 53), args := #[], argTypes := #[] }
  · intro w' hT
    simp only [List.getElem_toArray, List.getElem_cons_zero, List.getElem_cons_succ]
    go_wp2_with (first
      | (go_at_call 53; refine (round_calls _).mono ?_; rintro e wz ⟨rfl, hB⟩; rw [hks.out])
      | fail)
    exact SoftP.mk' (.agg (ints .u32 ks).toArray) ([]) rfl (⟨rfl, rfl⟩) (hT.below hB) (hB) (fun _ h => by cases h)
  intro u2 E2 hK2
  obtain ⟨rfl, rfl⟩ := hK2
  simp only [Act.put, List.setIfInBounds_toArray, List.set_cons_zero, List.set_cons_succ]
  apply wpS_read (i := 3) rfl rfl ⟨_, hS⟩ rfl -- Op.move t0
  · intro w' hT'
    simp only [List.getElem_toArray, List.getElem_cons_zero, List.getElem_cons_succ]
    go_wp2_with fail
    first | exact ⟨rfl, rfl, rfl⟩ | rfl
  apply wpS_read (i := 4) rfl rfl ⟨_, hS⟩ rfl -- Op.nilCheck t16
  · intro w' hT'
    simp only [List.getElem_toArray, List.getElem_cons_zero, List.getElem_cons_succ]
    go_wp2_with fail
    first | exact ⟨rfl, rfl, rfl⟩ | rfl
  apply wpS_read (i := 5) rfl rfl ⟨_, hS⟩ rfl -- Op.fieldAddr 94 t17 0
  · intro w' hT'
    simp only [List.getElem_toArray, List.getElem_cons_zero, List.getElem_cons_succ]
    go_wp2_with fail
    first | exact ⟨rfl, rfl, rfl⟩ | rfl
  apply wpS_read (i := 6) rfl rfl ⟨_, hS⟩ rfl -- Op.load 74 t18
  · intro w' hT'
    simp only [List.getElem_toArray, List.getElem_cons_zero, List.getElem_cons_succ]
    go_wp2_with (first
      | (refine hs_loadN hT' 0 rfl rfl 74 _ rfl 0 rfl (ints .u32 h) (fun m v hv => by rw [Nat.zero_add, List.getElem?_append_left (List.getElem?_eq_some_iff.1 hv).1]; exact hv) 8 infoW8 (by simp [HL.out]) _ arrW8 rfl _ rfl ?_)
      | fail)
    first | exact ⟨rfl, rfl, rfl⟩ | rfl
  refine wpS_soft (i := 7) rfl rfl rfl (Nat.le_of_ble_eq_true rfl) ?_ ?_ -- Op.alloc 84
  · intro w' hT
    simp only [List.getElem_toArray, List.getElem_cons_zero, List.getElem_cons_succ]
    go_wp2_with (first
      | (refine alloc_blk rfl 84 rfl _ rfl (ints .u32 (List.replicate 64 0)) zeroW64 ?_; intro ga wz hga hba hBa hsa)
      | fail)
    exact SoftP.mk' (.pointer (some ⟨ga, 0, none⟩)) ([.blk ga 84 (ints .u32 (List.replicate 64 0))]) rfl (⟨ga, rfl, rfl⟩) (hT.pushBlk hBa hba hga) (hBa) (fun e he k hk => by simp at he; subst he; have : k = ga := hk; omega)
  intro u7 E7 hK7
  obtain ⟨g4, rfl, rfl⟩ := hK7
  simp only [Act.put, List.setIfInBounds_toArray, List.set_cons_zero, List.set_cons_succ]
  refine wpS_soft (i := 8) rfl rfl rfl (Nat.le_of_ble_eq_true rfl) ?_ ?_ -- Op.alloc 84
  · intro w' hT
    simp only [List.getElem_toArray, List.getElem_cons_zero, List.getElem_cons_succ]
    go_wp2_with (first
      | (refine alloc_blk rfl 84 rfl _ rfl (ints .u32 (List.replicate 64 0)) zeroW64 ?_; intro ga wz hga hba hBa hsa)
      | fail)
    exact SoftP.mk' (.pointer (some ⟨ga, 0, none⟩)) ([.blk ga 84 (ints .u32 (List.replicate 64 0))]) rfl (⟨ga, rfl, rfl⟩) (hT.pushBlk hBa hba hga) (hBa) (fun e he k hk => by simp at he; subst he; have : k = ga := hk; omega)
  intro u8 E8 hK8
  obtain ⟨g5, rfl, rfl⟩ := hK8
  simp only [Act.put, List.setIfInBounds_toArray, List.set_cons_zero, List.set_cons_succ]
  refine wpS_soft (i := 9) rfl rfl rfl (Nat.le_of_ble_eq_true rfl) ?_ ?_ -- Op.alloc 74
  · intro w' hT
    simp only [List.getElem_toArray, List.getElem_cons_zero, List.getElem_cons_succ]
    go_wp2_with (first
      | (refine alloc_blk rfl 74 rfl _ rfl (ints .u32 (List.replicate 8 0)) zeroW8 ?_; intro ga wz hga hba hBa hsa)
      | fail)
    exact SoftP.mk' (.pointer (some ⟨ga, 0, none⟩)) ([.blk ga 74 (ints .u32 (List.replicate 8 0))]) rfl (⟨ga, rfl, rfl⟩) (hT.pushBlk hBa hba hga) (hBa) (fun e he k hk => by simp at he; subst he; have : k = ga := hk; omega)
  intro u9 E9 hK9
  obtain ⟨g6, rfl, rfl⟩ := hK9
  simp only [Act.put, List.setIfInBounds_toArray, List.set_cons_zero, List.set_cons_succ]
  refine wpS_hard (i := 10) rfl rfl ?_ -- Op.store 84 t4 t14
  intro w10 hT
  replace hT : HS (fun k => k = gh) w w10 [.blk g6 74 (ints .u32 (List.replicate 8 0)), .blk g5 84 (ints .u32 (List.replicate 64 0)), .blk g4 84 (ints .u32 (List.replicate 64 0)), .blk gh 94 (ints .u32 h ++ [vr, vn])] := hT
  simp only [List.getElem_toArray, List.getElem_cons_zero, List.getElem_cons_succ]
  go_wp2_with (first
    | (refine hs_storeW hT 2 rfl rfl 84 _ _ rfl rfl (ints .u32 ws) rfl (ints_one' _ _) _ infoW64 (by simp [HLs.out]) (by simp) _ rfl ?_; intro wz hT)
    | fail)
  refine HardP.mk' ([.blk g6 74 (ints .u32 (List.replicate 8 0)), .blk g5 84 (ints .u32 (List.replicate 64 0)), .blk g4 84 (ints .u32 ws)]) rfl ?_ ?_
  · exact hT
  clear hT
  refine wpS_hard (i := 11) rfl rfl ?_ -- Op.store 84 t5 t15
  intro w11 hT
  replace hT : HS (fun k => k = gh) w w11 [.blk g6 74 (ints .u32 (List.replicate 8 0)), .blk g5 84 (ints .u32 (List.replicate 64 0)), .blk g4 84 (ints .u32 ws), .blk gh 94 (ints .u32 h ++ [vr, vn])] := hT
  simp only [List.getElem_toArray, List.getElem_cons_zero, List.getElem_cons_succ]
  go_wp2_with (first
    | (refine hs_storeW hT 1 rfl rfl 84 _ _ rfl rfl (ints .u32 ks) rfl (ints_one' _ _) _ infoW64 (by simp [HLk.out]) (by simp) _ rfl ?_; intro wz hT)
    | fail)
  refine HardP.mk' ([.blk g6 74 (ints .u32 (List.replicate 8 0)), .blk g5 84 (ints .u32 ks), .blk g4 84 (ints .u32 ws)]) rfl ?_ ?_
  · exact hT
  clear hT
  refine wpS_hard (i := 12) rfl rfl ?_ -- Op.store 74 t6 t19
  intro w12 hT
  replace hT : HS (fun k => k = gh) w w12 [.blk g6 74 (ints .u32 (List.replicate 8 0)), .blk g5 84 (ints .u32 ks), .blk g4 84 (ints .u32 ws), .blk gh 94 (ints .u32 h ++ [vr, vn])] := hT
  simp only [List.getElem_toArray, List.getElem_cons_zero, List.getElem_cons_succ]
  go_wp2_with (first
    | (refine hs_storeW hT 0 rfl rfl 74 _ _ rfl rfl (ints .u32 h) rfl (ints_one' _ _) _ infoW8 (by simp [HL.out]) (by simp) _ rfl ?_; intro wz hT)
    | fail)
  refine HardP.mk' ([.blk g6 74 (ints .u32 h), .blk g5 84 (ints .u32 ks), .blk g4 84 (ints .u32 ws)]) rfl ?_ ?_
  · exact hT
  clear hT
  refine wpS_end ?_
  intro wz hT
  try dsimp only

  have hS0 : MS w wz gh g4 g5 g6 h ws ks (roundsS b h 0) vr vn := hT
  clear hT hS
  go_wp2_with fail
  go_loopg [7, 8, 9, 10, 11, 20] 65 (fun kq v7 v8 v9 v10 v11 v20 wr => ∃ i : Nat, i ≤ 64 ∧ v20 = .int .i64 i ∧ Hd (kq + i = 65) ∧ MS w wr gh g4 g5 g6 h ws ks (roundsS b h i) vr vn)
  case atStart => exact ⟨0, by omega, rfl, hid (by omega), hS0⟩
  case round =>
    clear hS0
    obtain ⟨i, hi, rfl, hq, hS⟩ := hrel
    by_cases hlt : i < 64
    · have hlt2 : (i : Int) < 64 := by omega
      have HX := hid (roundsS_succ b h i)
      rw [hws.out] at HX
      have R := roundsS_W32 b h hh i
      have HL8 := roundsS_length b h HL.out i
      generalize roundsS b h i = ss at *
      obtain ⟨x0, x1, x2, x3, x4, x5, x6, x7, rfl⟩ : ∃ x0 x1 x2 x3 x4 x5 x6 x7, ss = [x0, x1, x2, x3, x4, x5, x6, x7] := by
        match ss, HL8 with
        | [x0, x1, x2, x3, x4, x5, x6, x7], _ => exact ⟨_, _, _, _, _, _, _, _, rfl⟩
      obtain ⟨⟨r0, s0⟩, ⟨r1, s1⟩, ⟨r2, s2⟩, ⟨r3, s3⟩, ⟨r4, s4⟩, ⟨r5, s5⟩, ⟨r6, s6⟩, ⟨r7, s7⟩⟩ : W32 x0 ∧ W32 x1 ∧ W32 x2 ∧ W32 x3 ∧ W32 x4 ∧ W32 x5 ∧ W32 x6 ∧ W32 x7 := by
        refine ⟨R _ ?_, R _ ?_, R _ ?_, R _ ?_, R _ ?_, R _ ?_, R _ ?_, R _ ?_⟩ <;> simp
      clear R HL8
      obtain ⟨ki, hki⟩ : ∃ k, Hd (rd ks i = k) := ⟨_, hid rfl⟩
      obtain ⟨wi, hwi⟩ : ∃ k, Hd (rd ws i = k) := ⟨_, hid rfl⟩
      obtain ⟨rk, sk⟩ : W32 ki := by rw [← hki.out, ← hks.out]; exact shaK_W32 i
      obtain ⟨rw_, sw_⟩ : W32 wi := by rw [← hwi.out, ← hws.out]; exact rd_all (schedB_W32 b 48) zero_W32 _
      have CK : Hd (∀ {w'}, MS w w' gh g4 g5 g6 h ws ks [x0, x1, x2, x3, x4, x5, x6, x7] vr vn → w'.cell? ⟨g5, i, none⟩ = some (.int .u32 ki)) := hid fun h => by rw [h.cellI 1 rfl i (by rw [HLk.out]; exact hlt), hki.out]
      have CW : Hd (∀ {w'}, MS w w' gh g4 g5 g6 h ws ks [x0, x1, x2, x3, x4, x5, x6, x7] vr vn → w'.cell? ⟨g4, i, none⟩ = some (.int .u32 wi)) := hid fun h => by rw [h.cellI 2 rfl i (by rw [HLs.out]; exact hlt), hwi.out]
      try go_wp2_with fail
      refine wp_region_L (T := fun w' => MS w w' gh g4 g5 g6 h ws ks [x0, x1, x2, x3, x4, x5, x6, x7] vr vn) (by kernel_rfl) (by kernel_rfl) hS.drew ?_
      intro wa hT
      show wpT _ _ _ _ [0, 1, 2, 3, 4, 5] _ _
      apply wpT_read (i := 0) rfl hT rfl -- Op.indexAddr 74 t6 (const (0:i64))
      · intro w' hT'
        simp only [List.getElem_toArray, List.getElem_cons_zero, List.getElem_cons_succ]
        go_wp2_with fail
        first | exact ⟨rfl, rfl, rfl⟩ | rfl
      apply wpT_read (i := 1) rfl hT rfl -- Op.load 73 t23
      · intro w' hT'
        simp only [List.getElem_toArray, List.getElem_cons_zero, List.getElem_cons_succ]
        have cx0 : w'.cell? ⟨g6, 0, none⟩ = some (.int .u32 x0) := hT'.cell 0 rfl 0
        have cx4 : w'.cell? ⟨g6, 4, none⟩ = some (.int .u32 x4) := hT'.cell 0 rfl 4
        go_wp2_with fail
        first | exact ⟨rfl, rfl, rfl⟩ | rfl
      apply wpT_read (i := 2) rfl hT rfl -- Op.indexAddr 74 t6 (const (4:i64))
      · intro w' hT'
        simp only [List.getElem_toArray, List.getElem_cons_zero, List.getElem_cons_succ]
        go_wp2_with fail
        first | exact ⟨rfl, rfl, rfl⟩ | rfl
      apply wpT_read (i := 3) rfl hT rfl -- Op.load 73 t25
      · intro w' hT'
        simp only [List.getElem_toArray, List.getElem_cons_zero, List.getElem_cons_succ]
        have cx0 : w'.cell? ⟨g6, 0, none⟩ = some (.int .u32 x0) := hT'.cell 0 rfl 0
        have cx4 : w'.cell? ⟨g6, 4, none⟩ = some (.int .u32 x4) := hT'.cell 0 rfl 4
        go_wp2_with fail
        first | exact ⟨rfl, rfl, rfl⟩ | rfl
      apply wpT_read (i := 4) rfl hT rfl -- Op.assign t24
      · intro w' hT'
        simp only [List.getElem_toArray, List.getElem_cons_zero, List.getElem_cons_succ]
        go_wp2_with fail
        first | exact ⟨rfl, rfl, rfl⟩ | rfl
      apply wpT_read (i := 5) rfl hT rfl -- Op.assign t26
      · intro w' hT'
        simp only [List.getElem_toArray, List.getElem_cons_zero, List.getElem_cons_succ]
        go_wp2_with fail
        first | exact ⟨rfl, rfl, rfl⟩ | rfl
      refine wpT_end ?_
      try dsimp only

      replace hS := hT
      clear hT
      try go_wp2_with fail
      refine wp_region_L (T := fun w' => MS w w' gh g4 g5 g6 h ws ks [x0, x1, x2, x3, x4, x5, x6, x7] vr vn) (by kernel_rfl) (by kernel_rfl) hS.drew ?_
      intro wa hT
      show wpT _ _ _ _ [0, 1, 2, 3, 4, 5, 6, 7, 8, 9, 10, 11, 12, 13, 14, 15, 16, 17, 18, 19, 20, 21, 22, 23, 24, 25, 26, 27, 28, 29, 30] _ _
      apply wpT_read (i := 0) rfl hT rfl -- Op.indexAddr 74 t6 (const (7:i64))
      · intro w' hT'
        simp only [List.getElem_toArray, List.getElem_cons_zero, List.getElem_cons_succ]
        go_wp2_with fail
        first | exact ⟨rfl, rfl, rfl⟩ | rfl
      apply wpT_read (i := 1) rfl hT rfl -- Op.load 73 t27
      · intro w' hT'
        simp only [List.getElem_toArray, List.getElem_cons_zero, List.getElem_cons_succ]
        have cx7 : w'.cell? ⟨g6, 7, none⟩ = some (.int .u32 x7) := hT'.cell 0 rfl 7
        have cx5 : w'.cell? ⟨g6, 5, none⟩ = some (.int .u32 x5) := hT'.cell 0 rfl 5
        have cx6 : w'.cell? ⟨g6, 6, none⟩ = some (.int .u32 x6) := hT'.cell 0 rfl 6
        have ck := CK.out hT'
        have cw := CW.out hT'
        go_wp2_with fail
        first | exact ⟨rfl, rfl, rfl⟩ | rfl
      apply wpT_read (i := 2) rfl hT rfl -- Op.move t9
      · intro w' hT'
        simp only [List.getElem_toArray, List.getElem_cons_zero, List.getElem_cons_succ]
        go_wp2_with fail
        first | exact ⟨rfl, rfl, rfl⟩ | rfl
      refine wpT_actL (i := 3) rfl rfl ?_ -- Op.call { value (Operand.func 54), args := #[t29, const (6:i64)], ar
      simp only [List.getElem_toArray, List.getElem_cons_zero, List.getElem_cons_succ]
      go_wp2_with (first
        | (go_at_call 54; refine (right6_calls x4 _ r4 s4).mono ?_; rintro e w1 ⟨rfl, rfl⟩)
        | fail)
      refine OnT.mk rfl ?_ ?_
      · exact hT
      clear hT
      intro w5_3 hT
      apply wpT_read (i := 4) rfl hT rfl -- Op.move t9
      · intro w' hT'
        simp only [List.getElem_toArray, List.getElem_cons_zero, List.getElem_cons_succ]
        go_wp2_with fail
        first | exact ⟨rfl, rfl, rfl⟩ | rfl
      refine wpT_actL (i := 5) rfl rfl ?_ -- Op.call { value (Operand.func 54), args := #[t31, const (11:i64)], a
      simp only [List.getElem_toArray, List.getElem_cons_zero, List.getElem_cons_succ]
      go_wp2_with (first
        | (go_at_call 54; refine (right11_calls x4 _ r4 s4).mono ?_; rintro e w1 ⟨rfl, rfl⟩)
        | fail)
      refine OnT.mk rfl ?_ ?_
      · exact hT
      clear hT
      intro w5_5 hT
      apply wpT_read (i := 6) rfl hT rfl -- Op.binOp BinOp.xor 73 t30 t32 73
      · intro w' hT'
        simp only [List.getElem_toArray, List.getElem_cons_zero, List.getElem_cons_succ]
        go_wp2_with fail
        first | exact ⟨rfl, rfl, rfl⟩ | rfl
      apply wpT_read (i := 7) rfl hT rfl -- Op.move t9
      · intro w' hT'
        simp only [List.getElem_toArray, List.getElem_cons_zero, List.getElem_cons_succ]
        go_wp2_with fail
        first | exact ⟨rfl, rfl, rfl⟩ | rfl
      refine wpT_actL (i := 8) rfl rfl ?_ -- Op.call { value (Operand.func 54), args := #[t34, const (25:i64)], a
      simp only [List.getElem_toArray, List.getElem_cons_zero, List.getElem_cons_succ]
      go_wp2_with (first
        | (go_at_call 54; refine (right25_calls x4 _ r4 s4).mono ?_; rintro e w1 ⟨rfl, rfl⟩)
        | fail)
      refine OnT.mk rfl ?_ ?_
      · exact hT
      clear hT
      intro w5_8 hT
      apply wpT_read (i := 9) rfl hT rfl -- Op.binOp BinOp.xor 73 t33 t35 73
      · intro w' hT'
        simp only [List.getElem_toArray, List.getElem_cons_zero, List.getElem_cons_succ]
        go_wp2_with fail
        first | exact ⟨rfl, rfl, rfl⟩ | rfl
      apply wpT_read (i := 10) rfl hT rfl -- Op.binOp BinOp.add 73 t28 t36 73
      · intro w' hT'
        simp only [List.getElem_toArray, List.getElem_cons_zero, List.getElem_cons_succ]
        go_wp2_with fail
        first | exact ⟨rfl, rfl, rfl⟩ | rfl
      apply wpT_read (i := 11) rfl hT rfl -- Op.move t9
      · intro w' hT'
        simp only [List.getElem_toArray, List.getElem_cons_zero, List.getElem_cons_succ]
        go_wp2_with fail
        first | exact ⟨rfl, rfl, rfl⟩ | rfl
      apply wpT_read (i := 12) rfl hT rfl -- Op.indexAddr 74 t6 (const (5:i64))
      · intro w' hT'
        simp only [List.getElem_toArray, List.getElem_cons_zero, List.getElem_cons_succ]
        go_wp2_with fail
        first | exact ⟨rfl, rfl, rfl⟩ | rfl
      apply wpT_read (i := 13) rfl hT rfl -- Op.load 73 t39
      · intro w' hT'
        simp only [List.getElem_toArray, List.getElem_cons_zero, List.getElem_cons_succ]
        have cx7 : w'.cell? ⟨g6, 7, none⟩ = some (.int .u32 x7) := hT'.cell 0 rfl 7
        have cx5 : w'.cell? ⟨g6, 5, none⟩ = some (.int .u32 x5) := hT'.cell 0 rfl 5
        have cx6 : w'.cell? ⟨g6, 6, none⟩ = some (.int .u32 x6) := hT'.cell 0 rfl 6
        have ck := CK.out hT'
        have cw := CW.out hT'
        go_wp2_with fail
        first | exact ⟨rfl, rfl, rfl⟩ | rfl
      apply wpT_read (i := 14) rfl hT rfl -- Op.binOp BinOp.and 73 t38 t40 73
      · intro w' hT'
        simp only [List.getElem_toArray, List.getElem_cons_zero, List.getElem_cons_succ]
        go_wp2_with fail
        first | exact ⟨rfl, rfl, rfl⟩ | rfl
      apply wpT_read (i := 15) rfl hT rfl -- Op.move t9
      · intro w' hT'
        simp only [List.getElem_toArray, List.getElem_cons_zero, List.getElem_cons_succ]
        go_wp2_with fail
        first | exact ⟨rfl, rfl, rfl⟩ | rfl
      apply wpT_read (i := 16) rfl hT rfl -- Op.unOp UnOp.xor 73 t42
      · intro w' hT'
        simp only [List.getElem_toArray, List.getElem_cons_zero, List.getElem_cons_succ]
        go_wp2_with fail
        first | exact ⟨rfl, rfl, rfl⟩ | rfl
      apply wpT_read (i := 17) rfl hT rfl -- Op.indexAddr 74 t6 (const (6:i64))
      · intro w' hT'
        simp only [List.getElem_toArray, List.getElem_cons_zero, List.getElem_cons_succ]
        go_wp2_with fail
        first | exact ⟨rfl, rfl, rfl⟩ | rfl
      apply wpT_read (i := 18) rfl hT rfl -- Op.load 73 t44
      · intro w' hT'
        simp only [List.getElem_toArray, List.getElem_cons_zero, List.getElem_cons_succ]
        have cx7 : w'.cell? ⟨g6, 7, none⟩ = some (.int .u32 x7) := hT'.cell 0 rfl 7
        have cx5 : w'.cell? ⟨g6, 5, none⟩ = some (.int .u32 x5) := hT'.cell 0 rfl 5
        have cx6 : w'.cell? ⟨g6, 6, none⟩ = some (.int .u32 x6) := hT'.cell 0 rfl 6
        have ck := CK.out hT'
        have cw := CW.out hT'
        go_wp2_with fail
        first | exact ⟨rfl, rfl, rfl⟩ | rfl
      apply wpT_read (i := 19) rfl hT rfl -- Op.binOp BinOp.and 73 t43 t45 73
      · intro w' hT'
        simp only [List.getElem_toArray, List.getElem_cons_zero, List.getElem_cons_succ]
        go_wp2_with fail
        first | exact ⟨rfl, rfl, rfl⟩ | rfl
      apply wpT_read (i := 20) rfl hT rfl -- Op.binOp BinOp.xor 73 t41 t46 73
      · intro w' hT'
        simp only [List.getElem_toArray, List.getElem_cons_zero, List.getElem_cons_succ]
        go_wp2_with fail
        first | exact ⟨rfl, rfl, rfl⟩ | rfl
      apply wpT_read (i := 21) rfl hT rfl -- Op.binOp BinOp.add 73 t37 t47 73
      · intro w' hT'
        simp only [List.getElem_toArray, List.getElem_cons_zero, List.getElem_cons_succ]
        go_wp2_with fail
        first | exact ⟨rfl, rfl, rfl⟩ | rfl
      apply wpT_read (i := 22) rfl hT rfl -- Op.move t7
      · intro w' hT'
        simp only [List.getElem_toArray, List.getElem_cons_zero, List.getElem_cons_succ]
        go_wp2_with fail
        first | exact ⟨rfl, rfl, rfl⟩ | rfl
      apply wpT_read (i := 23) rfl hT rfl -- Op.indexAddr 84 t5 t49
      · intro w' hT'
        simp only [List.getElem_toArray, List.getElem_cons_zero, List.getElem_cons_succ]
        go_wp2_with fail
        first | exact ⟨rfl, rfl, rfl⟩ | rfl
      apply wpT_read (i := 24) rfl hT rfl -- Op.load 73 t50
      · intro w' hT'
        simp only [List.getElem_toArray, List.getElem_cons_zero, List.getElem_cons_succ]
        have cx7 : w'.cell? ⟨g6, 7, none⟩ = some (.int .u32 x7) := hT'.cell 0 rfl 7
        have cx5 : w'.cell? ⟨g6, 5, none⟩ = some (.int .u32 x5) := hT'.cell 0 rfl 5
        have cx6 : w'.cell? ⟨g6, 6, none⟩ = some (.int .u32 x6) := hT'.cell 0 rfl 6
        have ck := CK.out hT'
        have cw := CW.out hT'
        go_wp2_with fail
        first | exact ⟨rfl, rfl, rfl⟩ | rfl
      apply wpT_read (i := 25) rfl hT rfl -- Op.binOp BinOp.add 73 t48 t51 73
      · intro w' hT'
        simp only [List.getElem_toArray, List.getElem_cons_zero, List.getElem_cons_succ]
        go_wp2_with fail
        first | exact ⟨rfl, rfl, rfl⟩ | rfl
      apply wpT_read (i := 26) rfl hT rfl -- Op.move t7
      · intro w' hT'
        simp only [List.getElem_toArray, List.getElem_cons_zero, List.getElem_cons_succ]
        go_wp2_with fail
        first | exact ⟨rfl, rfl, rfl⟩ | rfl
      apply wpT_read (i := 27) rfl hT rfl -- Op.indexAddr 84 t4 t53
      · intro w' hT'
        simp only [List.getElem_toArray, List.getElem_cons_zero, List.getElem_cons_succ]
        go_wp2_with fail
        first | exact ⟨rfl, rfl, rfl⟩ | rfl
      apply wpT_read (i := 28) rfl hT rfl -- Op.load 73 t54
      · intro w' hT'
        simp only [List.getElem_toArray, List.getElem_cons_zero, List.getElem_cons_succ]
        have cx7 : w'.cell? ⟨g6, 7, none⟩ = some (.int .u32 x7) := hT'.cell 0 rfl 7
        have cx5 : w'.cell? ⟨g6, 5, none⟩ = some (.int .u32 x5) := hT'.cell 0 rfl 5
        have cx6 : w'.cell? ⟨g6, 6, none⟩ = some (.int .u32 x6) := hT'.cell 0 rfl 6
        have ck := CK.out hT'
        have cw := CW.out hT'
        go_wp2_with fail
        first | exact ⟨rfl, rfl, rfl⟩ | rfl
      apply wpT_read (i := 29) rfl hT rfl -- Op.binOp BinOp.add 73 t52 t55 73
      · intro w' hT'
        simp only [List.getElem_toArray, List.getElem_cons_zero, List.getElem_cons_succ]
        go_wp2_with fail
        first | exact ⟨rfl, rfl, rfl⟩ | rfl
      apply wpT_read (i := 30) rfl hT rfl -- Op.assign t56
      · intro w' hT'
        simp only [List.getElem_toArray, List.getElem_cons_zero, List.getElem_cons_succ]
        go_wp2_with fail
        first | exact ⟨rfl, rfl, rfl⟩ | rfl
      refine wpT_end ?_
      try dsimp only

      replace hS := hT
      clear hT
      try go_wp2_with fail
      refine wp_region_L (T := fun w' => MS w w' gh g4 g5 g6 h ws ks [x0, x1, x2, x3, x4, x5, x6, x7] vr vn) (by kernel_rfl) (by kernel_rfl) hS.drew ?_
      intro wa hT
      show wpT _ _ _ _ [0, 1, 2, 3, 4, 5, 6, 7, 8, 9, 10, 11, 12, 13, 14, 15, 16, 17, 18, 19, 20, 21, 22, 23, 24] _ _
      apply wpT_read (i := 0) rfl hT rfl -- Op.move t8
      · intro w' hT'
        simp only [List.getElem_toArray, List.getElem_cons_zero, List.getElem_cons_succ]
        go_wp2_with fail
        first | exact ⟨rfl, rfl, rfl⟩ | rfl
      refine wpT_actL (i := 1) rfl rfl ?_ -- Op.call { value (Operand.func 54), args := #[t57, const (2:i64)], ar
      simp only [List.getElem_toArray, List.getElem_cons_zero, List.getElem_cons_succ]
      go_wp2_with (first
        | (go_at_call 54; refine (right2_calls x0 _ r0 s0).mono ?_; rintro e w1 ⟨rfl, rfl⟩)
        | fail)
      refine OnT.mk rfl ?_ ?_
      · exact hT
      clear hT
      intro w6_1 hT
      apply wpT_read (i := 2) rfl hT rfl -- Op.move t8
      · intro w' hT'
        simp only [List.getElem_toArray, List.getElem_cons_zero, List.getElem_cons_succ]
        go_wp2_with fail
        first | exact ⟨rfl, rfl, rfl⟩ | rfl
      refine wpT_actL (i := 3) rfl rfl ?_ -- Op.call { value (Operand.func 54), args := #[t59, const (13:i64)], a
      simp only [List.getElem_toArray, List.getElem_cons_zero, List.getElem_cons_succ]
      go_wp2_with (first
        | (go_at_call 54; refine (right13_calls x0 _ r0 s0).mono ?_; rintro e w1 ⟨rfl, rfl⟩)
        | fail)
      refine OnT.mk rfl ?_ ?_
      · exact hT
      clear hT
      intro w6_3 hT
      apply wpT_read (i := 4) rfl hT rfl -- Op.binOp BinOp.xor 73 t58 t60 73
      · intro w' hT'
        simp only [List.getElem_toArray, List.getElem_cons_zero, List.getElem_cons_succ]
        go_wp2_with fail
        first | exact ⟨rfl, rfl, rfl⟩ | rfl
      apply wpT_read (i := 5) rfl hT rfl -- Op.move t8
      · intro w' hT'
        simp only [List.getElem_toArray, List.getElem_cons_zero, List.getElem_cons_succ]
        go_wp2_with fail
        first | exact ⟨rfl, rfl, rfl⟩ | rfl
      refine wpT_actL (i := 6) rfl rfl ?_ -- Op.call { value (Operand.func 54), args := #[t62, const (22:i64)], a
      simp only [List.getElem_toArray, List.getElem_cons_zero, List.getElem_cons_succ]
      go_wp2_with (first
        | (go_at_call 54; refine (right22_calls x0 _ r0 s0).mono ?_; rintro e w1 ⟨rfl, rfl⟩)
        | fail)
      refine OnT.mk rfl ?_ ?_
      · exact hT
      clear hT
      intro wn hT
      apply wpT_read (i := 7) rfl hT rfl -- Op.binOp BinOp.xor 73 t61 t63 73
      · intro w' hT'
        simp only [List.getElem_toArray, List.getElem_cons_zero, List.getElem_cons_succ]
        go_wp2_with fail
        first | exact ⟨rfl, rfl, rfl⟩ | rfl
      apply wpT_read (i := 8) rfl hT rfl -- Op.move t8
      · intro w' hT'
        simp only [List.getElem_toArray, List.getElem_cons_zero, List.getElem_cons_succ]
        go_wp2_with fail
        first | exact ⟨rfl, rfl, rfl⟩ | rfl
      apply wpT_read (i := 9) rfl hT rfl -- Op.indexAddr 74 t6 (const (1:i64))
      · intro w' hT'
        simp only [List.getElem_toArray, List.getElem_cons_zero, List.getElem_cons_succ]
        go_wp2_with fail
        first | exact ⟨rfl, rfl, rfl⟩ | rfl
      apply wpT_read (i := 10) rfl hT rfl -- Op.load 73 t66
      · intro w' hT'
        simp only [List.getElem_toArray, List.getElem_cons_zero, List.getElem_cons_succ]
        have cx1 : w'.cell? ⟨g6, 1, none⟩ = some (.int .u32 x1) := hT'.cell 0 rfl 1
        have cx2 : w'.cell? ⟨g6, 2, none⟩ = some (.int .u32 x2) := hT'.cell 0 rfl 2
        go_wp2_with fail
        first | exact ⟨rfl, rfl, rfl⟩ | rfl
      apply wpT_read (i := 11) rfl hT rfl -- Op.binOp BinOp.and 73 t65 t67 73
      · intro w' hT'
        simp only [List.getElem_toArray, List.getElem_cons_zero, List.getElem_cons_succ]
        go_wp2_with fail
        first | exact ⟨rfl, rfl, rfl⟩ | rfl
      apply wpT_read (i := 12) rfl hT rfl -- Op.move t8
      · intro w' hT'
        simp only [List.getElem_toArray, List.getElem_cons_zero, List.getElem_cons_succ]
        go_wp2_with fail
        first | exact ⟨rfl, rfl, rfl⟩ | rfl
      apply wpT_read (i := 13) rfl hT rfl -- Op.indexAddr 74 t6 (const (2:i64))
      · intro w' hT'
        simp only [List.getElem_toArray, List.getElem_cons_zero, List.getElem_cons_succ]
        go_wp2_with fail
        first | exact ⟨rfl, rfl, rfl⟩ | rfl
      apply wpT_read (i := 14) rfl hT rfl -- Op.load 73 t70
      · intro w' hT'
        simp only [List.getElem_toArray, List.getElem_cons_zero, List.getElem_cons_succ]
        have cx1 : w'.cell? ⟨g6, 1, none⟩ = some (.int .u32 x1) := hT'.cell 0 rfl 1
        have cx2 : w'.cell? ⟨g6, 2, none⟩ = some (.int .u32 x2) := hT'.cell 0 rfl 2
        go_wp2_with fail
        first | exact ⟨rfl, rfl, rfl⟩ | rfl
      apply wpT_read (i := 15) rfl hT rfl -- Op.binOp BinOp.and 73 t69 t71 73
      · intro w' hT'
        simp only [List.getElem_toArray, List.getElem_cons_zero, List.getElem_cons_succ]
        go_wp2_with fail
        first | exact ⟨rfl, rfl, rfl⟩ | rfl
      apply wpT_read (i := 16) rfl hT rfl -- Op.binOp BinOp.xor 73 t68 t72 73
      · intro w' hT'
        simp only [List.getElem_toArray, List.getElem_cons_zero, List.getElem_cons_succ]
        go_wp2_with fail
        first | exact ⟨rfl, rfl, rfl⟩ | rfl
      apply wpT_read (i := 17) rfl hT rfl -- Op.indexAddr 74 t6 (const (1:i64))
      · intro w' hT'
        simp only [List.getElem_toArray, List.getElem_cons_zero, List.getElem_cons_succ]
        go_wp2_with fail
        first | exact ⟨rfl, rfl, rfl⟩ | rfl
      apply wpT_read (i := 18) rfl hT rfl -- Op.load 73 t74
      · intro w' hT'
        simp only [List.getElem_toArray, List.getElem_cons_zero, List.getElem_cons_succ]
        have cx1 : w'.cell? ⟨g6, 1, none⟩ = some (.int .u32 x1) := hT'.cell 0 rfl 1
        have cx2 : w'.cell? ⟨g6, 2, none⟩ = some (.int .u32 x2) := hT'.cell 0 rfl 2
        go_wp2_with fail
        first | exact ⟨rfl, rfl, rfl⟩ | rfl
      apply wpT_read (i := 19) rfl hT rfl -- Op.indexAddr 74 t6 (const (2:i64))
      · intro w' hT'
        simp only [List.getElem_toArray, List.getElem_cons_zero, List.getElem_cons_succ]
        go_wp2_with fail
        first | exact ⟨rfl, rfl, rfl⟩ | rfl
      apply wpT_read (i := 20) rfl hT rfl -- Op.load 73 t76
      · intro w' hT'
        simp only [List.getElem_toArray, List.getElem_cons_zero, List.getElem_cons_succ]
        have cx1 : w'.cell? ⟨g6, 1, none⟩ = some (.int .u32 x1) := hT'.cell 0 rfl 1
        have cx2 : w'.cell? ⟨g6, 2, none⟩ = some (.int .u32 x2) := hT'.cell 0 rfl 2
        go_wp2_with fail
        first | exact ⟨rfl, rfl, rfl⟩ | rfl
      apply wpT_read (i := 21) rfl hT rfl -- Op.binOp BinOp.and 73 t75 t77 73
      · intro w' hT'
        simp only [List.getElem_toArray, List.getElem_cons_zero, List.getElem_cons_succ]
        go_wp2_with fail
        first | exact ⟨rfl, rfl, rfl⟩ | rfl
      apply wpT_read (i := 22) rfl hT rfl -- Op.binOp BinOp.xor 73 t73 t78 73
      · intro w' hT'
        simp only [List.getElem_toArray, List.getElem_cons_zero, List.getElem_cons_succ]
        go_wp2_with fail
        first | exact ⟨rfl, rfl, rfl⟩ | rfl
      apply wpT_read (i := 23) rfl hT rfl -- Op.binOp BinOp.add 73 t64 t79 73
      · intro w' hT'
        simp only [List.getElem_toArray, List.getElem_cons_zero, List.getElem_cons_succ]
        go_wp2_with fail
        first | exact ⟨rfl, rfl, rfl⟩ | rfl
      apply wpT_read (i := 24) rfl hT rfl -- Op.assign t80
      · intro w' hT'
        simp only [List.getElem_toArray, List.getElem_cons_zero, List.getElem_cons_succ]
        go_wp2_with fail
        first | exact ⟨rfl, rfl, rfl⟩ | rfl
      refine wpT_end ?_
      try dsimp only

      have HST : Hd (stepS ws [x0, x1, x2, x3, x4, x5, x6, x7] i = [((x7 + Sig 6 11 25 x4 + bits .xor .u32 (bits .and .u32 x4 x5) (bits .and .u32 (bits .xor .u32 IntKind.u32.max x4) x6) + ki + wi) + (Sig 2 13 22 x0 + bits .xor .u32 (bits .xor .u32 (bits .and .u32 x0 x1) (bits .and .u32 x0 x2)) (bits .and .u32 x1 x2))) % 4294967296, x0, x1, x2, (x3 + (x7 + Sig 6 11 25 x4 + bits .xor .u32 (bits .and .u32 x4 x5) (bits .and .u32 (bits .xor .u32 IntKind.u32.max x4) x6) + ki + wi)) % 4294967296, x4, x5, x6]) := hid (by unfold stepS oneS twoS; rw [hks.out, hki.out, hwi.out]; rfl)
      replace hS := hT
      clear hT
      have cx0 : wn.cell? ⟨g6, 0, none⟩ = some (.int .u32 x0) := hS.cell 0 rfl 0
      have cx1 : wn.cell? ⟨g6, 1, none⟩ = some (.int .u32 x1) := hS.cell 0 rfl 1
      have cx2 : wn.cell? ⟨g6, 2, none⟩ = some (.int .u32 x2) := hS.cell 0 rfl 2
      have cx3 : wn.cell? ⟨g6, 3, none⟩ = some (.int .u32 x3) := hS.cell 0 rfl 3
      have cx4 : wn.cell? ⟨g6, 4, none⟩ = some (.int .u32 x4) := hS.cell 0 rfl 4
      have cx5 : wn.cell? ⟨g6, 5, none⟩ = some (.int .u32 x5) := hS.cell 0 rfl 5
      have cx6 : wn.cell? ⟨g6, 6, none⟩ = some (.int .u32 x6) := hS.cell 0 rfl 6
      have cx7 : wn.cell? ⟨g6, 7, none⟩ = some (.int .u32 x7) := hS.cell 0 rfl 7
      go_wp2_with (first
        | (refine hs_storeW hS 0 rfl rfl 74 _ _ rfl rfl (ints .u32 (stepS ws [x0, x1, x2, x3, x4, x5, x6, x7] i)) (by rw [HST.out]; rfl) (ints_one' _ _) _ infoW8 (by rfl) (by rfl) _ rfl ?_
           rw [← HX.out]; clear hS; intro wy hS)
        | fail)
      go_roundg (gk - 1)
      case measure => have := hq.out; omega
      case rel => exact ⟨i + 1, by omega, by go_num, hid (by have := hq.out; omega), hS⟩
    · obtain rfl : i = 64 := by omega
      have R := roundsS_W32 b h hh 64
      have HL8 := hid (roundsS_length b h HL.out 64)
      have HF : Hd (topS h (roundsS b h 64) 8 = shaBlock h b) := hid rfl
      generalize roundsS b h 64 = ss at *
      have hS0 : MS w wr gh g4 g5 g6 (topS h ss 0) ws ks ss vr vn := hS
      clear hS hlt hi hq
      go_wp2_with fail
      go_loopg [12, 102] 9 (fun kq v12 v102 wr => ∃ i : Nat, i ≤ 8 ∧ v102 = .int .i64 i ∧ Hd (kq + i = 9) ∧ MS w wr gh g4 g5 g6 (topS h ss i) ws ks ss vr vn)
      case atStart => exact ⟨0, by omega, rfl, hid (by omega), hS0⟩
      case round =>
        clear hS0
        obtain ⟨i, hi, rfl, hq, hS⟩ := hrel
        by_cases hlt : i < 8
        · have hlt2 : (i : Int) < 8 := by omega
          have HX := hid (topS_succ h ss i)
          have HTL : Hd ((topS h ss i).length = 8) := hid (by simp [HL.out])
          have e1 := topS_rd h ss i i (Nat.le_refl _)
          generalize topS h ss i = ts at *
          obtain ⟨x, hx⟩ : ∃ x, rd h i = x := ⟨_, rfl⟩
          obtain ⟨y, hy⟩ : ∃ y, rd ss i = y := ⟨_, rfl⟩
          obtain ⟨rx, sx⟩ : W32 x := hx ▸ rd_all hh zero_W32 _
          obtain ⟨ry, sy⟩ : W32 y := hy ▸ rd_all R zero_W32 _
          rw [hx] at e1
          rw [hx, hy] at HX
          have C1 : Hd (∀ {w'}, MS w w' gh g4 g5 g6 ts ws ks ss vr vn → w'.cell? ⟨gh, i, none⟩ = some (.int .u32 x)) := hid fun h => by rw [h.cell 3 rfl i, List.getElem?_append_left (by rw [ints_length, HTL.out]; exact hlt), ints_get _ _ _ (by rw [HTL.out]; exact hlt), e1]
          have C2 : Hd (∀ {w'}, MS w w' gh g4 g5 g6 ts ws ks ss vr vn → w'.cell? ⟨g6, i, none⟩ = some (.int .u32 y)) := hid fun h => by rw [h.cellI 0 rfl i (by rw [HL8.out]; exact hlt), hy]
          clear e1 hx hy
          try go_wp2_with fail
          refine wp_region_L (T := fun w' => MS w w' gh g4 g5 g6 ts ws ks ss vr vn) (by kernel_rfl) (by kernel_rfl) hS.drew ?_
          intro wa hT
          show wpT _ _ _ _ [0, 1, 2, 3, 4, 5, 6, 7, 8, 9, 10, 11, 12, 13] _ _
          apply wpT_read (i := 0) rfl hT rfl -- Op.move t0
          · intro w' hT'
            simp only [List.getElem_toArray, List.getElem_cons_zero, List.getElem_cons_succ]
            go_wp2_with fail
            first | exact ⟨rfl, rfl, rfl⟩ | rfl
          apply wpT_read (i := 1) rfl hT rfl -- Op.move t12
          · intro w' hT'
            simp only [List.getElem_toArray, List.getElem_cons_zero, List.getElem_cons_succ]
            go_wp2_with fail
            first | exact ⟨rfl, rfl, rfl⟩ | rfl
          apply wpT_read (i := 2) rfl hT rfl -- Op.nilCheck t105
          · intro w' hT'
            simp only [List.getElem_toArray, List.getElem_cons_zero, List.getElem_cons_succ]
            go_wp2_with fail
            first | exact ⟨rfl, rfl, rfl⟩ | rfl
          apply wpT_read (i := 3) rfl hT rfl -- Op.fieldAddr 94 t107 0
          · intro w' hT'
            simp only [List.getElem_toArray, List.getElem_cons_zero, List.getElem_cons_succ]
            go_wp2_with fail
            first | exact ⟨rfl, rfl, rfl⟩ | rfl
          apply wpT_read (i := 4) rfl hT rfl -- Op.indexAddr 74 t108 t106
          · intro w' hT'
            simp only [List.getElem_toArray, List.getElem_cons_zero, List.getElem_cons_succ]
            go_wp2_with fail
            first | exact ⟨rfl, rfl, rfl⟩ | rfl
          apply wpT_read (i := 5) rfl hT rfl -- Op.load 73 t109
          · intro w' hT'
            simp only [List.getElem_toArray, List.getElem_cons_zero, List.getElem_cons_succ]
            have c1 := C1.out hT'
            have c2 := C2.out hT'
            go_wp2_with fail
            first | exact ⟨rfl, rfl, rfl⟩ | rfl
          apply wpT_read (i := 6) rfl hT rfl -- Op.move t12
          · intro w' hT'
            simp only [List.getElem_toArray, List.getElem_cons_zero, List.getElem_cons_succ]
            go_wp2_with fail
            first | exact ⟨rfl, rfl, rfl⟩ | rfl
          apply wpT_read (i := 7) rfl hT rfl -- Op.indexAddr 74 t6 t111
          · intro w' hT'
            simp only [List.getElem_toArray, List.getElem_cons_zero, List.getElem_cons_succ]
            go_wp2_with fail
            first | exact ⟨rfl, rfl, rfl⟩ | rfl
          apply wpT_read (i := 8) rfl hT rfl -- Op.load 73 t112
          · intro w' hT'
            simp only [List.getElem_toArray, List.getElem_cons_zero, List.getElem_cons_succ]
            have c1 := C1.out hT'
            have c2 := C2.out hT'
            go_wp2_with fail
            first | exact ⟨rfl, rfl, rfl⟩ | rfl
          apply wpT_read (i := 9) rfl hT rfl -- Op.binOp BinOp.add 73 t110 t113 73
          · intro w' hT'
            simp only [List.getElem_toArray, List.getElem_cons_zero, List.getElem_cons_succ]
            go_wp2_with fail
            first | exact ⟨rfl, rfl, rfl⟩ | rfl
          apply wpT_read (i := 10) rfl hT rfl -- Op.nilCheck t105
          · intro w' hT'
            simp only [List.getElem_toArray, List.getElem_cons_zero, List.getElem_cons_succ]
            go_wp2_with fail
            first | exact ⟨rfl, rfl, rfl⟩ | rfl
          apply wpT_read (i := 11) rfl hT rfl -- Op.fieldAddr 94 t115 0
          · intro w' hT'
            simp only [List.getElem_toArray, List.getElem_cons_zero, List.getElem_cons_succ]
            go_wp2_with fail
            first | exact ⟨rfl, rfl, rfl⟩ | rfl
          apply wpT_read (i := 12) rfl hT rfl -- Op.indexAddr 74 t116 t106
          · intro w' hT'
            simp only [List.getElem_toArray, List.getElem_cons_zero, List.getElem_cons_succ]
            go_wp2_with fail
            first | exact ⟨rfl, rfl, rfl⟩ | rfl
          refine wpT_totL (i := 13) rfl rfl (by kernel_rfl) ?_ -- Op.store 73 t117 t114
          simp only [List.getElem_toArray, List.getElem_cons_zero, List.getElem_cons_succ]
          have fz := hT.frozen 3 rfl i
          have cc := C1.out hT
          go_wp2_with fail
          refine OnX.mk (fun w' => MS w w' gh g4 g5 g6 (topS h ss (i + 1)) ws ks ss vr vn) rfl ?_ ?_
          · have h9 := hT.setCell 3 rfl i (.int .u32 ((x + y) % 4294967296)); rw [List.set_append_left _ _ (by rw [ints_length, HTL.out]; exact hlt), ints_set] at h9; rw [HX.out]; exact h9
          clear hT
          clear fz cc
          intro w12_13 hT
          refine wpT_end ?_
          try dsimp only

          go_wp2_with fail
          go_roundg (gk - 1)
          case measure => have := hq.out; omega
          case rel => exact ⟨i + 1, by omega, by go_num, hid (by have := hq.out; omega), hT⟩
        · obtain rfl : i = 8 := by omega
          rw [HF.out] at hS
          go_wp2_with fail
          exact Go.Cour.bodyPost_void rfl rfl ⟨rfl, hS.upd, hS.blk 3 rfl⟩
end Go.Proofs.YtinpilfnnmkpoaaDoor
