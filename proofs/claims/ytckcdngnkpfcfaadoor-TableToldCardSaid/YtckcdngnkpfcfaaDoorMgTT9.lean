import Derived.Test.YtckcdngnkpfcfaaDoorMgTT0
import Derived.Test.YtckcdngnkpfcfaaDoorMgTT1
import Derived.Test.YtckcdngnkpfcfaaDoorMgTT2
import Derived.Test.YtckcdngnkpfcfaaDoorMgTT3
import Derived.Test.YtckcdngnkpfcfaaDoorMgTT4
import Derived.Test.YtckcdngnkpfcfaaDoorMgTT5
import Derived.Test.YtckcdngnkpfcfaaDoorMgTT6
import Derived.Test.YtckcdngnkpfcfaaDoorMgTT7
import Derived.Test.YtckcdngnkpfcfaaDoorMgTT8
set_option linter.unusedSimpArgs false
set_option linter.unusedVariables false
/- The law TableTold: the way down. -/
namespace Go.Proofs.YtckcdngnkpfcfaaDoor
open Go.RowKit Go.Cour
theorem rd_at {w : World} {g n : Nat} {xs : List Int} (h : Rd w (some ⟨g, 0, none⟩) .u8 xs) (hn : xs.length = n) : ∀ j, j < n → w.cell? ⟨g, j, none⟩ = some (.int .u8 (rd xs j)) := fun j hj => by
  rcases h with h | ⟨g', o, he, h⟩
  · subst h; simp at hn; omega
  · injection he with he; injection he with h1 h2
    subst h1 h2
    have := h j (by omega)
    rwa [Nat.zero_add] at this
theorem bytesOk_zeros (k : Nat) : bytesOk (List.replicate k 0) := fun i => by
  unfold rd
  rw [List.getD_eq_getElem?_getD, List.getElem?_replicate]
  split <;> simp
set_option maxHeartbeats 8000000 in
set_option maxRecDepth 100000 in
theorem tableTold_down (n size at_ : Int) (w : World) :
    Calls Tryd.prog 5 #[.int .i64 n, .int .i64 size, .int .i64 at_, .bool true] w fun e w' => e = .returned (.bool true) ∧ Below w.heap.size w w' := by
  have hS := HS.start NoF w
  have HEQ := hid fun m : Nat => desc_neq 9 m 10 (List.replicate 32 0) (List.replicate 32 0) (List.replicate 32 0) (by simp) (by simp) (by simp)
  go_enter Tryd.func5, Tryd.ntmps5
  go_wp2_with (first
    | (go_at_call 28; refine (first26_calls _).mono ?_; rintro e w1 ⟨rfl, hB⟩; replace hS := hS.below hB; clear hB)
    | fail)
  refine (numN_calls size 100 _ (by omega) (by omega)).mono ?_
  rintro e w2 ⟨m, hm, rfl, hw2⟩
  subst hw2
  have hm1 : m < 100 := by omega
  clear hm
  obtain ⟨N, hN⟩ : ∃ N : Nat, Hd (countI m 10 = (N : Int)) := ⟨(countI m 10).toNat, hid (by have := (countI_bounds m 10).1; omega)⟩
  have hNb : 1 ≤ N ∧ N ≤ 100 := by have := countI_bounds m 10; have := hN.out; omega
  have HMANY : Hd (max (Int.tdiv ((m : Int) + 9) 10) 1 = (N : Int)) := hid (by rw [← hN.out]; exact many10 m)
  obtain ⟨xs, hxs⟩ : ∃ xs, Hd (fileTo n m = xs) := ⟨_, hid rfl⟩
  have HX := hid (fileTo_length n m)
  have RX := hid (fileTo_ok n m)
  obtain ⟨K, hK⟩ : ∃ K, Hd (keyOf n = K) := ⟨_, hid rfl⟩
  have HK := hid (keyOf_length n)
  have RK := hid (keyOf_ok n)
  rw [hxs.out] at HX RX
  rw [hK.out] at HK RK
  have HTS : Hd ((allTexts K xs 10).length = N) := hid (by rw [allTexts, allTo_length, HX.out, hN.out]; omega)
  have HTO := hid (allTexts_ok K xs 10 RX.out (by omega))
  have HBL := hid (blobOf_len (ts := allTexts K xs 10) (by rw [HTS.out]; omega) (fun X hX => (HTO.out X hX).1) (by rw [HTS.out]; omega))
  have HRL : Hd ((rootOf (hashesOf (allTexts K xs 10))).length = 32) := hid (rootF_H32 _ _ (hashesOf_H32 _)).1
  have HSL : Hd ((shaOf (blobOf (allTexts K xs 10))).length = 32) := hid (shaOf_length _)
  have HMK := hid fun A c w hA hc hr => make16_calls K xs 9 10 A m c w HK.out RK.out RX.out HX.out hA hc hr (by omega) (by omega) (by omega)
  obtain ⟨bs, hbs⟩ : ∃ bs, Hd (blobOf (allTexts K xs 10) = bs) := ⟨_, hid rfl⟩
  obtain ⟨RT, hRT⟩ : ∃ RT, Hd (rootOf (hashesOf (allTexts K xs 10)) = RT) := ⟨_, hid rfl⟩
  obtain ⟨SH, hSH⟩ : ∃ SH, Hd (shaOf bs = SH) := ⟨_, hid rfl⟩
  rw [hbs.out, hSH.out] at HSL
  rw [hRT.out] at HRL
  rw [hbs.out] at HBL
  rw [hRT.out, hbs.out, hSH.out] at HMK
  obtain ⟨bl, hbl⟩ : ∃ bl, Hd (bs.length = bl) := ⟨_, hid rfl⟩
  rw [hbl.out] at HBL
  have hblb : 0 < bl ∧ bl ≤ 100000 := HBL.out
  have HDL : Hd ((descC 9 (m : Nat) 10 K RT SH).length = 99) := hid (descC_length HK.out HRL.out HSL.out)
  have HD1 := hid (descC_one 9 (m : Nat) 10 K RT SH)
  have HD00 : Hd ((descC 9 (m : Nat) 10 K RT SH)[0]? = some (.int .u32 9)) := hid rfl
  have HD01 : Hd ((descC 9 (m : Nat) 10 K RT SH)[1]? = some (.int .u32 (m : Int))) := hid rfl
  have HD02 : Hd ((descC 9 (m : Nat) 10 K RT SH)[2]? = some (.int .u32 ((10 : Nat) : Int))) := hid rfl
  have HBU := hid fun A n c => builtRowU 9 (m : Nat) 10 K RT SH HK.out HRL.out HSL.out A n c
  have HBD := hid fun g => builtRowD 9 (m : Nat) 10 K RT SH HK.out HRL.out HSL.out g
  obtain ⟨kb, HKB⟩ : ∃ kb, Hd ((N + 7) / 8 = kb) := ⟨_, hid rfl⟩
  have HDN := hid fun w => dnew_calls 9 m 10 N kb K RT SH w HK.out HRL.out HSL.out (by omega) (by omega) hN.out (by omega) HKB.out
  clear HTO HTS HBL
  obtain ⟨D, hD⟩ : ∃ D, D = descC 9 (m : Nat) 10 K RT SH := ⟨_, rfl⟩
  rw [show ((10 : Nat) : Int) = 10 from rfl] at HDN
  rw [← hD] at HDL HD1 HD00 HD01 HD02
  simp only [← hD] at HMK HBU HBD HDN
  clear hD
  have HZ1 := hid zeroD_length
  have hN1 : (1 : Int) ≤ N := by omega
  rcases many_or m N hN.out with hmq | ⟨hmq, rfl⟩
  · go_wp2_with (first
      | (go_at_call 9; refine (file_calls n m _ (by omega)).mono ?_; rintro e w3 ⟨v3, rfl, ho, hB⟩; obtain ⟨A3, c3, h3, hc3, _, _⟩ := ho.slice; rw [fileTo_length] at h3 hc3; subst h3; replace hS := hS.pushOwn hB ho; rw [hxs.out] at hS; clear ho hB)
      | (go_at_call 10; refine (keyC_calls n _).mono ?_; rintro e w4 ⟨rfl, hB⟩; rw [hK.out]; replace hS : HS NoF w w4 [.os 5 (.slice A3 m c3) (ints .u8 xs)] := hS.below hB; clear hB)
      | (go_at_call 29; refine (HMK.out A3 c3 _ (hS.os 0 rfl).len.2.2.2 hc3 ((hS.os 0 rfl).rd rfl)).mono ?_; rintro e w5 ⟨v5, rfl, hox, hown, hB⟩; obtain ⟨A5, c5, h5, hc5, _⟩ := hox.parts; rw [ints_length, hbl.out] at h5 hc5; subst h5; replace hS : HS NoF w w5 [.os 5 (.slice A5 bl c5) (ints .u8 bs), .os 5 (.slice A3 m c3) (ints .u8 xs)] := hS.push hB _ hox (fun k hk => (by have := hown k hk; exact Nat.le_trans (by omega) this)); clear hox hown hB)
      | (refine alloc_blk rfl 32 rfl _ rfl zeroD zeroDesc ?_; intro g11 w11 hga hba hBa hsa; replace hS : HS NoF w w11 [.blk g11 32 zeroD, .os 5 (.slice A5 bl c5) (ints .u8 bs), .os 5 (.slice A3 m c3) (ints .u8 xs)] := hS.pushBlk hBa hba hga; clear hga hba hBa hsa)
      | (refine hs_storeW hS 0 rfl rfl 32 _ _ rfl rfl D rfl HD1.out 99 sizeDesc HDL.out HZ1.out _ rfl ?_; clear hS; intro w6 hS; replace hS : HS NoF w w6 [.blk g11 32 D, .os 5 (.slice A5 bl c5) (ints .u8 bs), .os 5 (.slice A3 m c3) (ints .u8 xs)] := hS)
      | (refine hs_loadW hS 0 rfl rfl 32 _ rfl rfl 99 sizeDesc HDL.out _ undDesc.choose_spec rfl _ rfl ?_)
      | (refine build_to rfl 70 _ rfl (rowC 4 1 2 D (.slice A5 bl c5) [.int .i64 0, .int .i64 0, .int .i64 0, .int .i64 0] (.pointer none)).toArray (by rw [Array.toList_map]; exact HBU.out A5 bl c5) ?_)
      | (refine alloc_blk rfl 70 rfl _ rfl rowZ zeroRow ?_; intro g14 w7 hga hba hBa hsa; replace hS : HS NoF w w7 [.blk g14 70 rowZ, .blk g11 32 D, .os 5 (.slice A5 bl c5) (ints .u8 bs), .os 5 (.slice A3 m c3) (ints .u8 xs)] := hS.pushBlk hBa hba hga; clear hga hba hBa hsa)
      | (refine hs_storeW hS 0 rfl rfl 70 _ _ rfl rfl (rowC 4 1 2 D (.slice A5 bl c5) [.int .i64 0, .int .i64 0, .int .i64 0, .int .i64 0] (.pointer none)) rfl (rowC_one _ _ _ _ _ _ _ _ _ _ HD1.out rfl rfl) 108 sizeRow (rowC_get _ _ _ _ _ _ _ _ _ _ HDL.out _ rfl).1 rowZ_length _ rfl ?_; clear hS; intro w8 hS; replace hS : HS NoF w w8 [.blk g14 70 (rowC 4 1 2 D (.slice A5 bl c5) [.int .i64 0, .int .i64 0, .int .i64 0, .int .i64 0] (.pointer none)), .blk g11 32 D, .os 5 (.slice A5 bl c5) (ints .u8 bs), .os 5 (.slice A3 m c3) (ints .u8 xs)] := hS)
      | fail)
    refine (numN_calls at_ bl _ (by omega) (by omega)).mono ?_
    rintro e w9 ⟨aa, hu, rfl, hw9⟩
    subst hw9
    have hu2 : aa < bl := by omega
    clear hu
    go_wp2_with (first
      | (refine hs_store1 hS 0 rfl rfl 3 _ _ rfl 104 rfl (.int .i64 (aa : Int)) rfl rfl sizeIntM (by rw [(rowC_get _ _ _ _ _ _ _ _ _ _ HDL.out _ rfl).1]; decide) _ rfl ?_; clear hS; intro w10 hS; replace hS : HS NoF w w10 [.blk g14 70 ((rowC 4 1 2 D (.slice A5 bl c5) [.int .i64 0, .int .i64 0, .int .i64 0, .int .i64 0] (.pointer none)).set 104 (.int .i64 (aa : Int))), .blk g11 32 D, .os 5 (.slice A5 bl c5) (ints .u8 bs), .os 5 (.slice A3 m c3) (ints .u8 xs)] := hS; rw [rowC_set104 _ _ _ _ _ _ _ _ _ _ _ HDL.out] at hS; have c104 : w10.cell? ⟨g14, 104, none⟩ = some (.int .i64 (aa : Int)) := (hS.cell 0 rfl 104).trans (rowC_get _ _ _ _ _ _ _ _ _ _ HDL.out _ rfl).2.2.2.2.2.2.2.2.1)
      | (refine alloc_blk rfl 72 rfl _ rfl (moveC 0 0 0 0 0 0) zeroMove ?_; intro g15 w12 hga hba hBa hsa; replace hS : HS NoF w w12 [.blk g15 72 (moveC 0 0 0 0 0 0), .blk g14 70 (rowC 4 1 2 D (.slice A5 bl c5) [.int .i64 0, .int .i64 aa, .int .i64 0, .int .i64 0] (.pointer none)), .blk g11 32 D, .os 5 (.slice A5 bl c5) (ints .u8 bs), .os 5 (.slice A3 m c3) (ints .u8 xs)] := hS.pushBlk hBa hba hga; clear hga hba hBa hsa)
      | (refine hs_storeW hS 0 rfl rfl 72 _ _ rfl rfl (moveC 4 1 2 m aa bl) rfl (moveC_one _ _ _ _ _ _) 6 sizeMove rfl rfl _ rfl ?_; clear hS; intro w13 hS; replace hS : HS NoF w w13 [.blk g15 72 (moveC 4 1 2 m aa bl), .blk g14 70 (rowC 4 1 2 D (.slice A5 bl c5) [.int .i64 0, .int .i64 aa, .int .i64 0, .int .i64 0] (.pointer none)), .blk g11 32 D, .os 5 (.slice A5 bl c5) (ints .u8 bs), .os 5 (.slice A3 m c3) (ints .u8 xs)] := hS)
      | (refine hs_loadW hS 2 rfl rfl 32 _ rfl rfl 99 sizeDesc HDL.out _ undDesc.choose_spec rfl _ rfl ?_)
      | (go_at_call 30; refine (HDN.out _).mono ?_; rintro e w14 ⟨gd, g, gb, gw, rfl, hq⟩; replace hS : HS NoF w w14 [.blk gd 122 (downC D (.slice none 0 0) false (.pointer (some ⟨g, 0, none⟩)) (.slice (some ⟨gw, 0, none⟩) m m) 0 0), .os 5 (.slice (some ⟨gw, 0, none⟩) m m) (ints .u8 (List.replicate m 0)), .blk g 148 [.int .i64 N, .slice (some ⟨gb, 0, none⟩) kb kb], .os 5 (.slice (some ⟨gb, 0, none⟩) kb kb) (ints .u8 (List.replicate kb 0)), .blk g15 72 (moveC 4 1 2 m aa bl), .blk g14 70 (rowC 4 1 2 D (.slice A5 bl c5) [.int .i64 0, .int .i64 aa, .int .i64 0, .int .i64 0] (.pointer none)), .blk g11 32 D, .os 5 (.slice A5 bl c5) (ints .u8 bs), .os 5 (.slice A3 m c3) (ints .u8 xs)] := HS.call (A := []) hS hq (fun _ h => h.elim))
      | (refine hs_loadW hS 6 rfl rfl 32 _ rfl rfl 99 sizeDesc HDL.out _ undDesc.choose_spec rfl _ rfl ?_)
      | (refine build_to rfl 70 _ rfl (rowC 4 2 2 D (.slice none 0 0) [.int .i64 0, .int .i64 0, .int .i64 0, .int .i64 0] (.pointer (some ⟨gd, 0, none⟩))).toArray (by rw [Array.toList_map]; exact HBD.out gd) ?_)
      | (refine hs_storeW hS 5 rfl rfl 70 _ _ rfl rfl (rowC 4 2 2 D (.slice none 0 0) [.int .i64 0, .int .i64 0, .int .i64 0, .int .i64 0] (.pointer (some ⟨gd, 0, none⟩))) rfl (rowC_one _ _ _ _ _ _ _ _ _ _ HD1.out rfl rfl) 108 sizeRow (rowC_get _ _ _ _ _ _ _ _ _ _ HDL.out _ rfl).1 (rowC_get _ _ _ _ _ _ _ _ _ _ HDL.out _ rfl).1 _ rfl ?_; clear hS; intro w15 hS; replace hS : HS NoF w w15 [.blk gd 122 (downC D (.slice none 0 0) false (.pointer (some ⟨g, 0, none⟩)) (.slice (some ⟨gw, 0, none⟩) m m) 0 0), .os 5 (.slice (some ⟨gw, 0, none⟩) m m) (ints .u8 (List.replicate m 0)), .blk g 148 [.int .i64 N, .slice (some ⟨gb, 0, none⟩) kb kb], .os 5 (.slice (some ⟨gb, 0, none⟩) kb kb) (ints .u8 (List.replicate kb 0)), .blk g15 72 (moveC 4 1 2 m aa bl), .blk g14 70 (rowC 4 2 2 D (.slice none 0 0) [.int .i64 0, .int .i64 0, .int .i64 0, .int .i64 0] (.pointer (some ⟨gd, 0, none⟩))), .blk g11 32 D, .os 5 (.slice A5 bl c5) (ints .u8 bs), .os 5 (.slice A3 m c3) (ints .u8 xs)] := hS)
      | (refine hs_storeW hS 4 rfl rfl 72 _ _ rfl rfl (moveC 4 2 2 m 0 N) rfl (moveC_one _ _ _ _ _ _) 6 sizeMove rfl rfl _ rfl ?_; clear hS; intro w16 hS; replace hS : HS NoF w w16 [.blk gd 122 (downC D (.slice none 0 0) false (.pointer (some ⟨g, 0, none⟩)) (.slice (some ⟨gw, 0, none⟩) m m) 0 0), .os 5 (.slice (some ⟨gw, 0, none⟩) m m) (ints .u8 (List.replicate m 0)), .blk g 148 [.int .i64 N, .slice (some ⟨gb, 0, none⟩) kb kb], .os 5 (.slice (some ⟨gb, 0, none⟩) kb kb) (ints .u8 (List.replicate kb 0)), .blk g15 72 (moveC 4 2 2 m 0 N), .blk g14 70 (rowC 4 2 2 D (.slice none 0 0) [.int .i64 0, .int .i64 0, .int .i64 0, .int .i64 0] (.pointer (some ⟨gd, 0, none⟩))), .blk g11 32 D, .os 5 (.slice A5 bl c5) (ints .u8 bs), .os 5 (.slice A3 m c3) (ints .u8 xs)] := hS)
      | fail)
    obtain ⟨R, hR⟩ : ∃ R, rowC 4 2 2 D (.slice none 0 0) [.int .i64 0, .int .i64 0, .int .i64 0, .int .i64 0] (.pointer (some ⟨gd, 0, none⟩)) = R := ⟨_, rfl⟩
    have HR := rowC_get _ _ _ _ _ _ _ _ _ _ HDL.out R hR
    have HRE := hid hR
    have HRL2 := hid HR.1
    have HR0 := hid HR.2.1
    have HR1 := hid HR.2.2.1
    have HR2 := hid HR.2.2.2.1
    have HR3 := hid (HR.2.2.2.2.1.trans HD00.out)
    have HR4 := hid (HR.2.2.2.2.2.1.trans HD01.out)
    have HR5 := hid (HR.2.2.2.2.2.2.1.trans HD02.out)
    have HR102 := hid HR.2.2.2.2.2.2.2.1
    have HR104 := hid HR.2.2.2.2.2.2.2.2.1
    have HR107 := hid HR.2.2.2.2.2.2.2.2.2
    clear HR hR
    rw [HRE.out] at hS
    have HDG := hid (downC_get D (.slice none 0 0) (.pointer (some ⟨g, 0, none⟩)) (.slice (some ⟨gw, 0, none⟩) m m) false 0 0 HDL.out)
    try go_wp2_with fail
    refine wp_region_S (F := NoF) (w0 := w) (L0 := [.blk gd 122 (downC D (.slice none 0 0) false (.pointer (some ⟨g, 0, none⟩)) (.slice (some ⟨gw, 0, none⟩) m m) 0 0), .os 5 (.slice (some ⟨gw, 0, none⟩) m m) (ints .u8 (List.replicate m 0)), .blk g 148 [.int .i64 N, .slice (some ⟨gb, 0, none⟩) kb kb], .os 5 (.slice (some ⟨gb, 0, none⟩) kb kb) (ints .u8 (List.replicate kb 0)), .blk g15 72 (moveC 4 2 2 m 0 N), .blk g14 70 (R), .blk g11 32 D, .os 5 (.slice A5 bl c5) (ints .u8 bs), .os 5 (.slice A3 m c3) (ints .u8 xs)]) [1] []
      (fun iK u E => match iK with
        | 1 => u = .agg (moveC 4 2 2 m 0 N).toArray ∧ E = []
        | _ => False)
      ([]) (by kernel_rfl) (by kernel_rfl) hS ?_
    show wpS _ _ _ _ _ _ _ _ _ _ [0, 1, 2, 3] _
    apply wpS_read (i := 0) rfl rfl ⟨_, hS⟩ rfl -- Op.load 70 t14
    · intro w' hT'
      simp only [List.getElem_toArray, List.getElem_cons_zero, List.getElem_cons_succ]
      go_wp2_with (first
        | (refine hs_loadW hT' 5 rfl rfl 70 _ rfl rfl 108 sizeRow HRL2.out _ undRow.choose_spec rfl _ rfl ?_)
        | (refine hs_loadW hT' 4 rfl rfl 72 _ rfl rfl 6 sizeMove rfl _ undMove.choose_spec rfl _ rfl ?_)
        | (refine bin_to rfl _ _ _ _ _ rfl (moveC 4 2 2 m 0 N).toArray (moveC 4 2 2 m 0 N).toArray rfl rfl guardMove (.bool false) (move_neq _ _ _ _ _ _) _ rfl ?_)
        | fail)
      first | exact ⟨rfl, rfl, rfl⟩ | rfl
    refine wpS_soft (i := 1) rfl rfl rfl (Nat.le_of_ble_eq_true rfl) ?_ ?_ -- Op.call { value (Operand.func 31), args := #[t65], argTypes := #[70]
    · intro w' hT
      simp only [List.getElem_toArray, List.getElem_cons_zero, List.getElem_cons_succ]
      go_wp2_with (first
        | (go_at_call 31; refine (told_down R 4 2 2 m (List.replicate kb 0) N kb g gb gd _ HRL2.out HR0.out HR1.out HR2.out HR4.out (by omega) HR107.out ((hT.cell 0 rfl 101).trans HDG.out.1) (by omega) HKB.out (by simp) (bytesOk_zeros kb) (hT.cell 2 rfl 0) (hT.cell 2 rfl 1) (rd_at ((hT.os 3 rfl).rd rfl) (by simp))).mono ?_; rintro e w6 ⟨rfl, hB6⟩; rw [countB_zeros])
        | fail)
      exact SoftP.mk' (.agg (moveC 4 2 2 m 0 N).toArray) ([]) rfl (⟨rfl, rfl⟩) (hT.below hB6) (hB6) (fun _ h => by cases h)
    intro u1 E1 hK1
    obtain ⟨rfl, rfl⟩ := hK1
    simp only [Act.put, List.setIfInBounds_toArray, List.set_cons_zero, List.set_cons_succ]
    apply wpS_read (i := 2) rfl rfl ⟨_, hS⟩ rfl -- Op.load 72 t15
    · intro w' hT'
      simp only [List.getElem_toArray, List.getElem_cons_zero, List.getElem_cons_succ]
      go_wp2_with (first
        | (refine hs_loadW hT' 5 rfl rfl 70 _ rfl rfl 108 sizeRow HRL2.out _ undRow.choose_spec rfl _ rfl ?_)
        | (refine hs_loadW hT' 4 rfl rfl 72 _ rfl rfl 6 sizeMove rfl _ undMove.choose_spec rfl _ rfl ?_)
        | (refine bin_to rfl _ _ _ _ _ rfl (moveC 4 2 2 m 0 N).toArray (moveC 4 2 2 m 0 N).toArray rfl rfl guardMove (.bool false) (move_neq _ _ _ _ _ _) _ rfl ?_)
        | fail)
      first | exact ⟨rfl, rfl, rfl⟩ | rfl
    apply wpS_read (i := 3) rfl rfl ⟨_, hS⟩ rfl -- Op.binOp BinOp.neq 72 t66 t67 72
    · intro w' hT'
      simp only [List.getElem_toArray, List.getElem_cons_zero, List.getElem_cons_succ]
      go_wp2_with (first
        | (refine hs_loadW hT' 5 rfl rfl 70 _ rfl rfl 108 sizeRow HRL2.out _ undRow.choose_spec rfl _ rfl ?_)
        | (refine hs_loadW hT' 4 rfl rfl 72 _ rfl rfl 6 sizeMove rfl _ undMove.choose_spec rfl _ rfl ?_)
        | (refine bin_to rfl _ _ _ _ _ rfl (moveC 4 2 2 m 0 N).toArray (moveC 4 2 2 m 0 N).toArray rfl rfl guardMove (.bool false) (move_neq _ _ _ _ _ _) _ rfl ?_)
        | fail)
      first | exact ⟨rfl, rfl, rfl⟩ | rfl
    refine wpS_end ?_
    intro wz hT
    try dsimp only
    clear hS
    have hS : HS NoF w wz [.blk gd 122 (downC D (.slice none 0 0) false (.pointer (some ⟨g, 0, none⟩)) (.slice (some ⟨gw, 0, none⟩) m m) 0 0), .os 5 (.slice (some ⟨gw, 0, none⟩) m m) (ints .u8 (List.replicate m 0)), .blk g 148 [.int .i64 N, .slice (some ⟨gb, 0, none⟩) kb kb], .os 5 (.slice (some ⟨gb, 0, none⟩) kb kb) (ints .u8 (List.replicate kb 0)), .blk g15 72 (moveC 4 2 2 m 0 N), .blk g14 70 (R), .blk g11 32 D, .os 5 (.slice A5 bl c5) (ints .u8 bs), .os 5 (.slice A3 m c3) (ints .u8 xs)] := hT
    clear hT
    go_wp2_with fail
    have HBZ := hid (builtDescZ 9 (m : Nat) 10)
    have HZDL := hid (dscZ_length 9 (m : Nat) 10)
    have HZD1 := hid (descC_one 9 (m : Nat) 10 (List.replicate 32 0) (List.replicate 32 0) (List.replicate 32 0))
    have HZ01 : Hd ((dscZ 9 (m : Nat) 10)[1]? = some (.int .u32 (m : Int))) := hid rfl
    have HEND := hid fun (s : Nat) (h : (s : Int) ≠ 3) w => tend_calls R 4 2 s 9 m 10 (some ⟨gd, 0, none⟩) w HRL2.out HR0.out HR1.out HR3.out HR4.out HR5.out HR107.out (.inr h)
    have HEND3 : Hd (∀ s : Nat, s = 3 → ∀ w, w.cell? ⟨gd, 102, none⟩ = some (.slice (some ⟨gw, 0, none⟩) m m) → Rd w (some ⟨gw, 0, none⟩) .u8 (List.replicate m 0) → Calls Tryd.prog 32 #[.agg R.toArray, .int .i64 s] w fun e w' => ∃ v, e = .returned (.agg (endC 4 2 s (dscZ 9 (m : Nat) 10) v).toArray) ∧ OwnS w' 5 v (ints .u8 (List.replicate m 0)) ∧ Below w.heap.size w w') := hid fun s h w ct hr => by
      subst h
      exact tend_done R 4 2 9 m 10 (List.replicate m 0) gd m m (some ⟨gw, 0, none⟩) w HRL2.out HR0.out HR1.out HR3.out HR4.out HR5.out HR107.out ct (by simp) (fun h => by cases h) hr (by simp; omega)
    change Hd (∀ v ∈ dscZ 9 (m : Nat) 10, v.oneCell' = true) at HZD1
    replace HEQ : Hd (∀ w, (binOp .neq 32 (.agg (dscZ 9 (m : Nat) 10).toArray) (.agg (dscZ 9 (m : Nat) 10).toArray)).run Tryd.prog w = .ok (.bool false) w) := hid (HEQ.out m)
    generalize dscZ 9 (m : Nat) 10 = DZ at *
    go_loopg [17] 4 (fun kq v17 wr => ∃ s : Nat, 3 ≤ s ∧ s ≤ 6 ∧ v17 = .int .i64 s ∧ Hd (kq + s = 7) ∧ HS NoF w wr [.blk gd 122 (downC D (.slice none 0 0) false (.pointer (some ⟨g, 0, none⟩)) (.slice (some ⟨gw, 0, none⟩) m m) 0 0), .os 5 (.slice (some ⟨gw, 0, none⟩) m m) (ints .u8 (List.replicate m 0)), .blk g 148 [.int .i64 N, .slice (some ⟨gb, 0, none⟩) kb kb], .os 5 (.slice (some ⟨gb, 0, none⟩) kb kb) (ints .u8 (List.replicate kb 0)), .blk g15 72 (moveC 4 2 2 m 0 N), .blk g14 70 (R), .blk g11 32 D, .os 5 (.slice A5 bl c5) (ints .u8 bs), .os 5 (.slice A3 m c3) (ints .u8 xs)])
    case atStart => exact ⟨3, by omega, by omega, rfl, hid rfl, hS⟩
    case round =>
      clear hS
      obtain ⟨s, hs3, hs6, rfl, hq, hS⟩ := hrel
      by_cases hlt : s ≤ 5
      · have hlt2 : (s : Int) ≤ 5 := by omega
        by_cases h3 : s = 3
        · clear hlt
          have hst : ((s : Int) == 3) = true := by simp [h3]
          have H3 := hid h3
          clear h3
          go_wp2_with (first
              | (refine hs_loadW hS 5 rfl rfl 70 _ rfl rfl 108 sizeRow HRL2.out _ undRow.choose_spec rfl _ rfl ?_)
              | (go_at_call 32; refine (HEND3.out s H3.out _ ((hS.cell 0 rfl 102).trans HDG.out.2) ((hS.os 1 rfl).rd rfl)).mono ?_; rintro e we ⟨v6, rfl, ho, hB⟩; obtain ⟨A6, c6, h6, hc6, _⟩ := ho.parts; rw [ints_length, List.length_replicate] at h6; subst h6; replace hS := hS.below hB; clear ho hc6 hB)
              | (refine alloc_blk rfl 70 rfl _ rfl rowZ zeroRow ?_; intro g18 wa hga hba hBa hsa; replace hS := hS.pushBlk hBa hba hga; clear hga hba hBa hsa)
              | (refine hs_storeW hS 0 rfl rfl 70 _ _ rfl rfl (endC 4 2 s DZ (.slice A6 m c6)) rfl (endC_one _ _ _ _ _ HZD1.out rfl) 108 sizeRow (endC_length _ _ _ _ _ HZDL.out) rowZ_length _ rfl ?_; clear hS; intro wb hS; replace hS : HS NoF w wb (.blk g18 70 (endC 4 2 s DZ (.slice A6 m c6)) :: [.blk gd 122 (downC D (.slice none 0 0) false (.pointer (some ⟨g, 0, none⟩)) (.slice (some ⟨gw, 0, none⟩) m m) 0 0), .os 5 (.slice (some ⟨gw, 0, none⟩) m m) (ints .u8 (List.replicate m 0)), .blk g 148 [.int .i64 N, .slice (some ⟨gb, 0, none⟩) kb kb], .os 5 (.slice (some ⟨gb, 0, none⟩) kb kb) (ints .u8 (List.replicate kb 0)), .blk g15 72 (moveC 4 2 2 m 0 N), .blk g14 70 (R), .blk g11 32 D, .os 5 (.slice A5 bl c5) (ints .u8 bs), .os 5 (.slice A3 m c3) (ints .u8 xs)]) := hS)
              | fail)
          have HE := rowC_get 4 2 s DZ (.slice A6 m c6) (.pointer none) 0 0 0 0 HZDL.out _ rfl
          have HEN := hid (rowC_D 4 2 s DZ (.slice A6 m c6) (.pointer none) [.int .i64 0, .int .i64 0, .int .i64 0, .int .i64 0] HZDL.out)
          obtain ⟨E, hE⟩ : ∃ E, endC 4 2 s DZ (.slice A6 m c6) = E := ⟨_, rfl⟩
          change _ at HE
          unfold endC at hE
          rw [hE] at HE HEN
          have HEL := hid HE.1
          have HE0 := hid HE.2.1
          have HE1 := hid HE.2.2.1
          have HE2 := hid HE.2.2.2.1
          have HE4 := hid (HE.2.2.2.2.2.1.trans HZ01.out)
          have HE102 := hid HE.2.2.2.2.2.2.2.1
          have HE107 := hid HE.2.2.2.2.2.2.2.2.2
          clear HE
          replace hS : HS NoF w wb (.blk g18 70 E :: [.blk gd 122 (downC D (.slice none 0 0) false (.pointer (some ⟨g, 0, none⟩)) (.slice (some ⟨gw, 0, none⟩) m m) 0 0), .os 5 (.slice (some ⟨gw, 0, none⟩) m m) (ints .u8 (List.replicate m 0)), .blk g 148 [.int .i64 N, .slice (some ⟨gb, 0, none⟩) kb kb], .os 5 (.slice (some ⟨gb, 0, none⟩) kb kb) (ints .u8 (List.replicate kb 0)), .blk g15 72 (moveC 4 2 2 m 0 N), .blk g14 70 (R), .blk g11 32 D, .os 5 (.slice A5 bl c5) (ints .u8 bs), .os 5 (.slice A3 m c3) (ints .u8 xs)]) := hE ▸ hS
          clear hE
          go_wp2_with fail
          try go_wp2_with fail
          refine wp_region_S (F := NoF) (w0 := w) (L0 := (.blk g18 70 E :: [.blk gd 122 (downC D (.slice none 0 0) false (.pointer (some ⟨g, 0, none⟩)) (.slice (some ⟨gw, 0, none⟩) m m) 0 0), .os 5 (.slice (some ⟨gw, 0, none⟩) m m) (ints .u8 (List.replicate m 0)), .blk g 148 [.int .i64 N, .slice (some ⟨gb, 0, none⟩) kb kb], .os 5 (.slice (some ⟨gb, 0, none⟩) kb kb) (ints .u8 (List.replicate kb 0)), .blk g15 72 (moveC 4 2 2 m 0 N), .blk g14 70 (R), .blk g11 32 D, .os 5 (.slice A5 bl c5) (ints .u8 bs), .os 5 (.slice A3 m c3) (ints .u8 xs)])) [1] []
            (fun iK u E => match iK with
              | 1 => u = .agg (moveC 4 2 s m 0 0).toArray ∧ E = []
              | _ => False)
            ([]) (by kernel_rfl) (by kernel_rfl) hS ?_
          show wpS _ _ _ _ _ _ _ _ _ _ [0, 1, 2, 3, 4, 5, 6, 7, 8, 9, 10, 11, 12, 13, 14, 15, 16, 17, 18, 19, 20, 21, 22, 23, 24, 25, 26, 27, 28, 29, 30, 31] _
          apply wpS_read (i := 0) rfl rfl ⟨_, hS⟩ rfl -- Op.load 70 t18
          · intro w' hT'
            simp only [List.getElem_toArray, List.getElem_cons_zero, List.getElem_cons_succ]
            have ck : w'.cell? ⟨g15, 1, none⟩ = some (.int .i64 2) := hT'.cell 5 rfl 1
            have cb : w'.cell? ⟨g18, 102, none⟩ = some (.slice A6 m c6) := (hT'.cell 0 rfl 102).trans HE102.out
            go_wp2_with (first
              | (refine hs_loadW hT' 0 rfl rfl 70 _ rfl rfl 108 sizeRow HEL.out _ undRow.choose_spec rfl _ rfl ?_)
              | (refine hs_loadN hT' 0 rfl rfl 32 _ rfl 3 rfl DZ HEN.out 99 sizeDesc HZDL.out _ undDesc.choose_spec rfl _ rfl ?_)
              | (refine build_to rfl 32 _ rfl DZ.toArray (by rw [Array.toList_map]; exact HBZ.out) ?_)
              | (refine bin_to rfl _ _ _ _ _ rfl (moveC 4 2 s m 0 0).toArray (moveC 4 2 s m 0 0).toArray rfl rfl guardMove (.bool false) (move_neq _ _ _ _ _ _) _ rfl ?_)
              | (refine bin_to rfl _ _ _ _ _ rfl DZ.toArray DZ.toArray rfl rfl guardDesc (.bool false) HEQ.out _ rfl ?_)
              | fail)
            first | exact ⟨rfl, rfl, rfl⟩ | rfl
          refine wpS_soft (i := 1) rfl rfl rfl (Nat.le_of_ble_eq_true rfl) ?_ ?_ -- Op.call { value (Operand.func 31), args := #[t76], argTypes := #[70]
          · intro w' hT
            simp only [List.getElem_toArray, List.getElem_cons_zero, List.getElem_cons_succ]
            go_wp2_with (first
              | (go_at_call 31; refine (told_end E 4 2 s m _ HEL.out HE0.out HE1.out HE2.out HE4.out (by omega) HE107.out (by omega)).mono ?_; rintro e w6 ⟨rfl, hB6⟩)
              | fail)
            exact SoftP.mk' (.agg (moveC 4 2 s m 0 0).toArray) ([]) rfl (⟨rfl, rfl⟩) (hT.below hB6) (hB6) (fun _ h => by cases h)
          intro u1 E1 hK1
          obtain ⟨rfl, rfl⟩ := hK1
          simp only [Act.put, List.setIfInBounds_toArray, List.set_cons_zero, List.set_cons_succ]
          apply wpS_read (i := 2) rfl rfl ⟨_, hS⟩ rfl -- Op.fieldAddr 72 t15 1
          · intro w' hT'
            simp only [List.getElem_toArray, List.getElem_cons_zero, List.getElem_cons_succ]
            go_wp2_with fail
            first | exact ⟨rfl, rfl, rfl⟩ | rfl
          apply wpS_read (i := 3) rfl rfl ⟨_, hS⟩ rfl -- Op.load 3 t78
          · intro w' hT'
            simp only [List.getElem_toArray, List.getElem_cons_zero, List.getElem_cons_succ]
            have ck : w'.cell? ⟨g15, 1, none⟩ = some (.int .i64 2) := hT'.cell 5 rfl 1
            have cb : w'.cell? ⟨g18, 102, none⟩ = some (.slice A6 m c6) := (hT'.cell 0 rfl 102).trans HE102.out
            go_wp2_with (first
              | (refine hs_loadW hT' 0 rfl rfl 70 _ rfl rfl 108 sizeRow HEL.out _ undRow.choose_spec rfl _ rfl ?_)
              | (refine hs_loadN hT' 0 rfl rfl 32 _ rfl 3 rfl DZ HEN.out 99 sizeDesc HZDL.out _ undDesc.choose_spec rfl _ rfl ?_)
              | (refine build_to rfl 32 _ rfl DZ.toArray (by rw [Array.toList_map]; exact HBZ.out) ?_)
              | (refine bin_to rfl _ _ _ _ _ rfl (moveC 4 2 s m 0 0).toArray (moveC 4 2 s m 0 0).toArray rfl rfl guardMove (.bool false) (move_neq _ _ _ _ _ _) _ rfl ?_)
              | (refine bin_to rfl _ _ _ _ _ rfl DZ.toArray DZ.toArray rfl rfl guardDesc (.bool false) HEQ.out _ rfl ?_)
              | fail)
            first | exact ⟨rfl, rfl, rfl⟩ | rfl
          apply wpS_read (i := 4) rfl rfl ⟨_, hS⟩ rfl -- Op.move t17
          · intro w' hT'
            simp only [List.getElem_toArray, List.getElem_cons_zero, List.getElem_cons_succ]
            go_wp2_with fail
            first | exact ⟨rfl, rfl, rfl⟩ | rfl
          apply wpS_read (i := 5) rfl rfl ⟨_, hS⟩ rfl -- Op.move t1
          · intro w' hT'
            simp only [List.getElem_toArray, List.getElem_cons_zero, List.getElem_cons_succ]
            go_wp2_with fail
            first | exact ⟨rfl, rfl, rfl⟩ | rfl
          apply wpS_read (i := 6) rfl rfl ⟨_, hS⟩ rfl -- Op.build 72 #[(0, const (4:i64)), (1, t79), (2, t80), (3, t81)]
          · intro w' hT'
            simp only [List.getElem_toArray, List.getElem_cons_zero, List.getElem_cons_succ]
            go_wp2_with (first
              | (refine hs_loadW hT' 0 rfl rfl 70 _ rfl rfl 108 sizeRow HEL.out _ undRow.choose_spec rfl _ rfl ?_)
              | (refine hs_loadN hT' 0 rfl rfl 32 _ rfl 3 rfl DZ HEN.out 99 sizeDesc HZDL.out _ undDesc.choose_spec rfl _ rfl ?_)
              | (refine build_to rfl 32 _ rfl DZ.toArray (by rw [Array.toList_map]; exact HBZ.out) ?_)
              | (refine bin_to rfl _ _ _ _ _ rfl (moveC 4 2 s m 0 0).toArray (moveC 4 2 s m 0 0).toArray rfl rfl guardMove (.bool false) (move_neq _ _ _ _ _ _) _ rfl ?_)
              | (refine bin_to rfl _ _ _ _ _ rfl DZ.toArray DZ.toArray rfl rfl guardDesc (.bool false) HEQ.out _ rfl ?_)
              | fail)
            first | exact ⟨rfl, rfl, rfl⟩ | rfl
          apply wpS_read (i := 7) rfl rfl ⟨_, hS⟩ rfl -- Op.binOp BinOp.neq 72 t77 t82 72
          · intro w' hT'
            simp only [List.getElem_toArray, List.getElem_cons_zero, List.getElem_cons_succ]
            go_wp2_with (first
              | (refine hs_loadW hT' 0 rfl rfl 70 _ rfl rfl 108 sizeRow HEL.out _ undRow.choose_spec rfl _ rfl ?_)
              | (refine hs_loadN hT' 0 rfl rfl 32 _ rfl 3 rfl DZ HEN.out 99 sizeDesc HZDL.out _ undDesc.choose_spec rfl _ rfl ?_)
              | (refine build_to rfl 32 _ rfl DZ.toArray (by rw [Array.toList_map]; exact HBZ.out) ?_)
              | (refine bin_to rfl _ _ _ _ _ rfl (moveC 4 2 s m 0 0).toArray (moveC 4 2 s m 0 0).toArray rfl rfl guardMove (.bool false) (move_neq _ _ _ _ _ _) _ rfl ?_)
              | (refine bin_to rfl _ _ _ _ _ rfl DZ.toArray DZ.toArray rfl rfl guardDesc (.bool false) HEQ.out _ rfl ?_)
              | fail)
            first | exact ⟨rfl, rfl, rfl⟩ | rfl
          apply wpS_read (i := 8) rfl rfl ⟨_, hS⟩ rfl -- Op.move t83
          · intro w' hT'
            simp only [List.getElem_toArray, List.getElem_cons_zero, List.getElem_cons_succ]
            go_wp2_with fail
            first | exact ⟨rfl, rfl, rfl⟩ | rfl
          apply wpS_read (i := 9) rfl rfl ⟨_, hS⟩ rfl -- Op.fieldAddr 70 t18 3
          · intro w' hT'
            simp only [List.getElem_toArray, List.getElem_cons_zero, List.getElem_cons_succ]
            go_wp2_with fail
            first | exact ⟨rfl, rfl, rfl⟩ | rfl
          apply wpS_read (i := 10) rfl rfl ⟨_, hS⟩ rfl -- Op.load 32 t85
          · intro w' hT'
            simp only [List.getElem_toArray, List.getElem_cons_zero, List.getElem_cons_succ]
            have ck : w'.cell? ⟨g15, 1, none⟩ = some (.int .i64 2) := hT'.cell 5 rfl 1
            have cb : w'.cell? ⟨g18, 102, none⟩ = some (.slice A6 m c6) := (hT'.cell 0 rfl 102).trans HE102.out
            go_wp2_with (first
              | (refine hs_loadW hT' 0 rfl rfl 70 _ rfl rfl 108 sizeRow HEL.out _ undRow.choose_spec rfl _ rfl ?_)
              | (refine hs_loadN hT' 0 rfl rfl 32 _ rfl 3 rfl DZ HEN.out 99 sizeDesc HZDL.out _ undDesc.choose_spec rfl _ rfl ?_)
              | (refine build_to rfl 32 _ rfl DZ.toArray (by rw [Array.toList_map]; exact HBZ.out) ?_)
              | (refine bin_to rfl _ _ _ _ _ rfl (moveC 4 2 s m 0 0).toArray (moveC 4 2 s m 0 0).toArray rfl rfl guardMove (.bool false) (move_neq _ _ _ _ _ _) _ rfl ?_)
              | (refine bin_to rfl _ _ _ _ _ rfl DZ.toArray DZ.toArray rfl rfl guardDesc (.bool false) HEQ.out _ rfl ?_)
              | fail)
            first | exact ⟨rfl, rfl, rfl⟩ | rfl
          apply wpS_read (i := 11) rfl rfl ⟨_, hS⟩ rfl -- Op.move t1
          · intro w' hT'
            simp only [List.getElem_toArray, List.getElem_cons_zero, List.getElem_cons_succ]
            go_wp2_with fail
            first | exact ⟨rfl, rfl, rfl⟩ | rfl
          apply wpS_read (i := 12) rfl rfl ⟨_, hS⟩ rfl -- Op.convert 3 29 t87
          · intro w' hT'
            simp only [List.getElem_toArray, List.getElem_cons_zero, List.getElem_cons_succ]
            go_wp2_with (first
              | (refine hs_loadW hT' 0 rfl rfl 70 _ rfl rfl 108 sizeRow HEL.out _ undRow.choose_spec rfl _ rfl ?_)
              | (refine hs_loadN hT' 0 rfl rfl 32 _ rfl 3 rfl DZ HEN.out 99 sizeDesc HZDL.out _ undDesc.choose_spec rfl _ rfl ?_)
              | (refine build_to rfl 32 _ rfl DZ.toArray (by rw [Array.toList_map]; exact HBZ.out) ?_)
              | (refine bin_to rfl _ _ _ _ _ rfl (moveC 4 2 s m 0 0).toArray (moveC 4 2 s m 0 0).toArray rfl rfl guardMove (.bool false) (move_neq _ _ _ _ _ _) _ rfl ?_)
              | (refine bin_to rfl _ _ _ _ _ rfl DZ.toArray DZ.toArray rfl rfl guardDesc (.bool false) HEQ.out _ rfl ?_)
              | fail)
            first | exact ⟨rfl, rfl, rfl⟩ | rfl
          apply wpS_read (i := 13) rfl rfl ⟨_, hS⟩ rfl -- Op.build 32 #[(0, const (9:u32)), (1, t88), (2, const (10:u32))]
          · intro w' hT'
            simp only [List.getElem_toArray, List.getElem_cons_zero, List.getElem_cons_succ]
            go_wp2_with (first
              | (refine hs_loadW hT' 0 rfl rfl 70 _ rfl rfl 108 sizeRow HEL.out _ undRow.choose_spec rfl _ rfl ?_)
              | (refine hs_loadN hT' 0 rfl rfl 32 _ rfl 3 rfl DZ HEN.out 99 sizeDesc HZDL.out _ undDesc.choose_spec rfl _ rfl ?_)
              | (refine build_to rfl 32 _ rfl DZ.toArray (by rw [Array.toList_map]; exact HBZ.out) ?_)
              | (refine bin_to rfl _ _ _ _ _ rfl (moveC 4 2 s m 0 0).toArray (moveC 4 2 s m 0 0).toArray rfl rfl guardMove (.bool false) (move_neq _ _ _ _ _ _) _ rfl ?_)
              | (refine bin_to rfl _ _ _ _ _ rfl DZ.toArray DZ.toArray rfl rfl guardDesc (.bool false) HEQ.out _ rfl ?_)
              | fail)
            first | exact ⟨rfl, rfl, rfl⟩ | rfl
          apply wpS_read (i := 14) rfl rfl ⟨_, hS⟩ rfl -- Op.binOp BinOp.neq 32 t86 t89 32
          · intro w' hT'
            simp only [List.getElem_toArray, List.getElem_cons_zero, List.getElem_cons_succ]
            go_wp2_with (first
              | (refine hs_loadW hT' 0 rfl rfl 70 _ rfl rfl 108 sizeRow HEL.out _ undRow.choose_spec rfl _ rfl ?_)
              | (refine hs_loadN hT' 0 rfl rfl 32 _ rfl 3 rfl DZ HEN.out 99 sizeDesc HZDL.out _ undDesc.choose_spec rfl _ rfl ?_)
              | (refine build_to rfl 32 _ rfl DZ.toArray (by rw [Array.toList_map]; exact HBZ.out) ?_)
              | (refine bin_to rfl _ _ _ _ _ rfl (moveC 4 2 s m 0 0).toArray (moveC 4 2 s m 0 0).toArray rfl rfl guardMove (.bool false) (move_neq _ _ _ _ _ _) _ rfl ?_)
              | (refine bin_to rfl _ _ _ _ _ rfl DZ.toArray DZ.toArray rfl rfl guardDesc (.bool false) HEQ.out _ rfl ?_)
              | fail)
            first | exact ⟨rfl, rfl, rfl⟩ | rfl
          apply wpS_read (i := 15) rfl rfl ⟨_, hS⟩ rfl -- Op.pick t84 (const (Value.bool true)) t90
          · intro w' hT'
            simp only [List.getElem_toArray, List.getElem_cons_zero, List.getElem_cons_succ]
            go_wp2_with fail
            first | exact ⟨rfl, rfl, rfl⟩ | rfl
          apply wpS_read (i := 16) rfl rfl ⟨_, hS⟩ rfl -- Op.move t91
          · intro w' hT'
            simp only [List.getElem_toArray, List.getElem_cons_zero, List.getElem_cons_succ]
            go_wp2_with fail
            first | exact ⟨rfl, rfl, rfl⟩ | rfl
          apply wpS_read (i := 17) rfl rfl ⟨_, hS⟩ rfl -- Op.fieldAddr 70 t18 4
          · intro w' hT'
            simp only [List.getElem_toArray, List.getElem_cons_zero, List.getElem_cons_succ]
            go_wp2_with fail
            first | exact ⟨rfl, rfl, rfl⟩ | rfl
          apply wpS_read (i := 18) rfl rfl ⟨_, hS⟩ rfl -- Op.load 24 t93
          · intro w' hT'
            simp only [List.getElem_toArray, List.getElem_cons_zero, List.getElem_cons_succ]
            have ck : w'.cell? ⟨g15, 1, none⟩ = some (.int .i64 2) := hT'.cell 5 rfl 1
            have cb : w'.cell? ⟨g18, 102, none⟩ = some (.slice A6 m c6) := (hT'.cell 0 rfl 102).trans HE102.out
            go_wp2_with (first
              | (refine hs_loadW hT' 0 rfl rfl 70 _ rfl rfl 108 sizeRow HEL.out _ undRow.choose_spec rfl _ rfl ?_)
              | (refine hs_loadN hT' 0 rfl rfl 32 _ rfl 3 rfl DZ HEN.out 99 sizeDesc HZDL.out _ undDesc.choose_spec rfl _ rfl ?_)
              | (refine build_to rfl 32 _ rfl DZ.toArray (by rw [Array.toList_map]; exact HBZ.out) ?_)
              | (refine bin_to rfl _ _ _ _ _ rfl (moveC 4 2 s m 0 0).toArray (moveC 4 2 s m 0 0).toArray rfl rfl guardMove (.bool false) (move_neq _ _ _ _ _ _) _ rfl ?_)
              | (refine bin_to rfl _ _ _ _ _ rfl DZ.toArray DZ.toArray rfl rfl guardDesc (.bool false) HEQ.out _ rfl ?_)
              | fail)
            first | exact ⟨rfl, rfl, rfl⟩ | rfl
          apply wpS_read (i := 19) rfl rfl ⟨_, hS⟩ rfl -- Op.call { builtin len, args := #[t94], argTypes := #[24] }
          · intro w' hT'
            simp only [List.getElem_toArray, List.getElem_cons_zero, List.getElem_cons_succ]
            go_wp2_with fail
            first | exact ⟨rfl, rfl, rfl⟩ | rfl
          apply wpS_read (i := 20) rfl rfl ⟨_, hS⟩ rfl -- Op.binOp BinOp.gtr 3 t95 (const (0:i64)) 3
          · intro w' hT'
            simp only [List.getElem_toArray, List.getElem_cons_zero, List.getElem_cons_succ]
            go_wp2_with (first
              | (refine hs_loadW hT' 0 rfl rfl 70 _ rfl rfl 108 sizeRow HEL.out _ undRow.choose_spec rfl _ rfl ?_)
              | (refine hs_loadN hT' 0 rfl rfl 32 _ rfl 3 rfl DZ HEN.out 99 sizeDesc HZDL.out _ undDesc.choose_spec rfl _ rfl ?_)
              | (refine build_to rfl 32 _ rfl DZ.toArray (by rw [Array.toList_map]; exact HBZ.out) ?_)
              | (refine bin_to rfl _ _ _ _ _ rfl (moveC 4 2 s m 0 0).toArray (moveC 4 2 s m 0 0).toArray rfl rfl guardMove (.bool false) (move_neq _ _ _ _ _ _) _ rfl ?_)
              | (refine bin_to rfl _ _ _ _ _ rfl DZ.toArray DZ.toArray rfl rfl guardDesc (.bool false) HEQ.out _ rfl ?_)
              | fail)
            first | exact ⟨rfl, rfl, rfl⟩ | rfl
          apply wpS_read (i := 21) rfl rfl ⟨_, hS⟩ rfl -- Op.move t3
          · intro w' hT'
            simp only [List.getElem_toArray, List.getElem_cons_zero, List.getElem_cons_succ]
            go_wp2_with fail
            first | exact ⟨rfl, rfl, rfl⟩ | rfl
          apply wpS_read (i := 22) rfl rfl ⟨_, hS⟩ rfl -- Op.move t97
          · intro w' hT'
            simp only [List.getElem_toArray, List.getElem_cons_zero, List.getElem_cons_succ]
            go_wp2_with fail
            first | exact ⟨rfl, rfl, rfl⟩ | rfl
          apply wpS_read (i := 23) rfl rfl ⟨_, hS⟩ rfl -- Op.move t17
          · intro w' hT'
            simp only [List.getElem_toArray, List.getElem_cons_zero, List.getElem_cons_succ]
            go_wp2_with fail
            first | exact ⟨rfl, rfl, rfl⟩ | rfl
          apply wpS_read (i := 24) rfl rfl ⟨_, hS⟩ rfl -- Op.binOp BinOp.eql 3 t99 (const (3:i64)) 3
          · intro w' hT'
            simp only [List.getElem_toArray, List.getElem_cons_zero, List.getElem_cons_succ]
            go_wp2_with (first
              | (refine hs_loadW hT' 0 rfl rfl 70 _ rfl rfl 108 sizeRow HEL.out _ undRow.choose_spec rfl _ rfl ?_)
              | (refine hs_loadN hT' 0 rfl rfl 32 _ rfl 3 rfl DZ HEN.out 99 sizeDesc HZDL.out _ undDesc.choose_spec rfl _ rfl ?_)
              | (refine build_to rfl 32 _ rfl DZ.toArray (by rw [Array.toList_map]; exact HBZ.out) ?_)
              | (refine bin_to rfl _ _ _ _ _ rfl (moveC 4 2 s m 0 0).toArray (moveC 4 2 s m 0 0).toArray rfl rfl guardMove (.bool false) (move_neq _ _ _ _ _ _) _ rfl ?_)
              | (refine bin_to rfl _ _ _ _ _ rfl DZ.toArray DZ.toArray rfl rfl guardDesc (.bool false) HEQ.out _ rfl ?_)
              | fail)
            first | exact ⟨rfl, rfl, rfl⟩ | rfl
          apply wpS_read (i := 25) rfl rfl ⟨_, hS⟩ rfl -- Op.pick t98 t100 (const (Value.bool false))
          · intro w' hT'
            simp only [List.getElem_toArray, List.getElem_cons_zero, List.getElem_cons_succ]
            go_wp2_with fail
            first | exact ⟨rfl, rfl, rfl⟩ | rfl
          apply wpS_read (i := 26) rfl rfl ⟨_, hS⟩ rfl -- Op.move t101
          · intro w' hT'
            simp only [List.getElem_toArray, List.getElem_cons_zero, List.getElem_cons_succ]
            go_wp2_with fail
            first | exact ⟨rfl, rfl, rfl⟩ | rfl
          apply wpS_read (i := 27) rfl rfl ⟨_, hS⟩ rfl -- Op.move t1
          · intro w' hT'
            simp only [List.getElem_toArray, List.getElem_cons_zero, List.getElem_cons_succ]
            go_wp2_with fail
            first | exact ⟨rfl, rfl, rfl⟩ | rfl
          apply wpS_read (i := 28) rfl rfl ⟨_, hS⟩ rfl -- Op.binOp BinOp.gtr 3 t103 (const (0:i64)) 3
          · intro w' hT'
            simp only [List.getElem_toArray, List.getElem_cons_zero, List.getElem_cons_succ]
            go_wp2_with (first
              | (refine hs_loadW hT' 0 rfl rfl 70 _ rfl rfl 108 sizeRow HEL.out _ undRow.choose_spec rfl _ rfl ?_)
              | (refine hs_loadN hT' 0 rfl rfl 32 _ rfl 3 rfl DZ HEN.out 99 sizeDesc HZDL.out _ undDesc.choose_spec rfl _ rfl ?_)
              | (refine build_to rfl 32 _ rfl DZ.toArray (by rw [Array.toList_map]; exact HBZ.out) ?_)
              | (refine bin_to rfl _ _ _ _ _ rfl (moveC 4 2 s m 0 0).toArray (moveC 4 2 s m 0 0).toArray rfl rfl guardMove (.bool false) (move_neq _ _ _ _ _ _) _ rfl ?_)
              | (refine bin_to rfl _ _ _ _ _ rfl DZ.toArray DZ.toArray rfl rfl guardDesc (.bool false) HEQ.out _ rfl ?_)
              | fail)
            first | exact ⟨rfl, rfl, rfl⟩ | rfl
          apply wpS_read (i := 29) rfl rfl ⟨_, hS⟩ rfl -- Op.pick t102 t104 (const (Value.bool false))
          · intro w' hT'
            simp only [List.getElem_toArray, List.getElem_cons_zero, List.getElem_cons_succ]
            go_wp2_with fail
            first | exact ⟨rfl, rfl, rfl⟩ | rfl
          apply wpS_read (i := 30) rfl rfl ⟨_, hS⟩ rfl -- Op.binOp BinOp.neq 4 t96 t105 4
          · intro w' hT'
            simp only [List.getElem_toArray, List.getElem_cons_zero, List.getElem_cons_succ]
            go_wp2_with (first
              | (refine hs_loadW hT' 0 rfl rfl 70 _ rfl rfl 108 sizeRow HEL.out _ undRow.choose_spec rfl _ rfl ?_)
              | (refine hs_loadN hT' 0 rfl rfl 32 _ rfl 3 rfl DZ HEN.out 99 sizeDesc HZDL.out _ undDesc.choose_spec rfl _ rfl ?_)
              | (refine build_to rfl 32 _ rfl DZ.toArray (by rw [Array.toList_map]; exact HBZ.out) ?_)
              | (refine bin_to rfl _ _ _ _ _ rfl (moveC 4 2 s m 0 0).toArray (moveC 4 2 s m 0 0).toArray rfl rfl guardMove (.bool false) (move_neq _ _ _ _ _ _) _ rfl ?_)
              | (refine bin_to rfl _ _ _ _ _ rfl DZ.toArray DZ.toArray rfl rfl guardDesc (.bool false) HEQ.out _ rfl ?_)
              | fail)
            first | exact ⟨rfl, rfl, rfl⟩ | rfl
          apply wpS_read (i := 31) rfl rfl ⟨_, hS⟩ rfl -- Op.pick t92 (const (Value.bool true)) t106
          · intro w' hT'
            simp only [List.getElem_toArray, List.getElem_cons_zero, List.getElem_cons_succ]
            go_wp2_with fail
            first | exact ⟨rfl, rfl, rfl⟩ | rfl
          refine wpS_end ?_
          intro wz hT
          try dsimp only
          clear hS
          have hS : HS NoF w wz (.blk g18 70 E :: [.blk gd 122 (downC D (.slice none 0 0) false (.pointer (some ⟨g, 0, none⟩)) (.slice (some ⟨gw, 0, none⟩) m m) 0 0), .os 5 (.slice (some ⟨gw, 0, none⟩) m m) (ints .u8 (List.replicate m 0)), .blk g 148 [.int .i64 N, .slice (some ⟨gb, 0, none⟩) kb kb], .os 5 (.slice (some ⟨gb, 0, none⟩) kb kb) (ints .u8 (List.replicate kb 0)), .blk g15 72 (moveC 4 2 2 m 0 N), .blk g14 70 (R), .blk g11 32 D, .os 5 (.slice A5 bl c5) (ints .u8 bs), .os 5 (.slice A3 m c3) (ints .u8 xs)]) := hT
          clear hT
          go_wp2_with fail
          go_roundg (gk - 1)
          case measure => have := hq.out; omega
          case rel => exact ⟨s + 1, by omega, by omega, by go_num, hid (by have := hq.out; omega), hS.erase 0⟩
        
        · clear hlt
          have hne : (s : Int) ≠ 3 := by omega
          go_wp2_with (first
              | (refine hs_loadW hS 5 rfl rfl 70 _ rfl rfl 108 sizeRow HRL2.out _ undRow.choose_spec rfl _ rfl ?_)
              | (go_at_call 32; refine (HEND.out s hne _).mono ?_; rintro e we ⟨rfl, hB⟩; replace hS := hS.below hB; clear hB)
              | (refine alloc_blk rfl 70 rfl _ rfl rowZ zeroRow ?_; intro g18 wa hga hba hBa hsa; replace hS := hS.pushBlk hBa hba hga; clear hga hba hBa hsa)
              | (refine hs_storeW hS 0 rfl rfl 70 _ _ rfl rfl (endC 4 2 s DZ (.slice none 0 0)) rfl (endC_one _ _ _ _ _ HZD1.out rfl) 108 sizeRow (endC_length _ _ _ _ _ HZDL.out) rowZ_length _ rfl ?_; clear hS; intro wb hS; replace hS : HS NoF w wb (.blk g18 70 (endC 4 2 s DZ (.slice none 0 0)) :: [.blk gd 122 (downC D (.slice none 0 0) false (.pointer (some ⟨g, 0, none⟩)) (.slice (some ⟨gw, 0, none⟩) m m) 0 0), .os 5 (.slice (some ⟨gw, 0, none⟩) m m) (ints .u8 (List.replicate m 0)), .blk g 148 [.int .i64 N, .slice (some ⟨gb, 0, none⟩) kb kb], .os 5 (.slice (some ⟨gb, 0, none⟩) kb kb) (ints .u8 (List.replicate kb 0)), .blk g15 72 (moveC 4 2 2 m 0 N), .blk g14 70 (R), .blk g11 32 D, .os 5 (.slice A5 bl c5) (ints .u8 bs), .os 5 (.slice A3 m c3) (ints .u8 xs)]) := hS)
              | fail)
          have HE := rowC_get 4 2 s DZ (.slice none 0 0) (.pointer none) 0 0 0 0 HZDL.out _ rfl
          have HEN := hid (rowC_D 4 2 s DZ (.slice none 0 0) (.pointer none) [.int .i64 0, .int .i64 0, .int .i64 0, .int .i64 0] HZDL.out)
          obtain ⟨E, hE⟩ : ∃ E, endC 4 2 s DZ (.slice none 0 0) = E := ⟨_, rfl⟩
          change _ at HE
          unfold endC at hE
          rw [hE] at HE HEN
          have HEL := hid HE.1
          have HE0 := hid HE.2.1
          have HE1 := hid HE.2.2.1
          have HE2 := hid HE.2.2.2.1
          have HE4 := hid (HE.2.2.2.2.2.1.trans HZ01.out)
          have HE102 := hid HE.2.2.2.2.2.2.2.1
          have HE107 := hid HE.2.2.2.2.2.2.2.2.2
          clear HE
          replace hS : HS NoF w wb (.blk g18 70 E :: [.blk gd 122 (downC D (.slice none 0 0) false (.pointer (some ⟨g, 0, none⟩)) (.slice (some ⟨gw, 0, none⟩) m m) 0 0), .os 5 (.slice (some ⟨gw, 0, none⟩) m m) (ints .u8 (List.replicate m 0)), .blk g 148 [.int .i64 N, .slice (some ⟨gb, 0, none⟩) kb kb], .os 5 (.slice (some ⟨gb, 0, none⟩) kb kb) (ints .u8 (List.replicate kb 0)), .blk g15 72 (moveC 4 2 2 m 0 N), .blk g14 70 (R), .blk g11 32 D, .os 5 (.slice A5 bl c5) (ints .u8 bs), .os 5 (.slice A3 m c3) (ints .u8 xs)]) := hE ▸ hS
          clear hE
          go_wp2_with fail
          try go_wp2_with fail
          refine wp_region_S (F := NoF) (w0 := w) (L0 := (.blk g18 70 E :: [.blk gd 122 (downC D (.slice none 0 0) false (.pointer (some ⟨g, 0, none⟩)) (.slice (some ⟨gw, 0, none⟩) m m) 0 0), .os 5 (.slice (some ⟨gw, 0, none⟩) m m) (ints .u8 (List.replicate m 0)), .blk g 148 [.int .i64 N, .slice (some ⟨gb, 0, none⟩) kb kb], .os 5 (.slice (some ⟨gb, 0, none⟩) kb kb) (ints .u8 (List.replicate kb 0)), .blk g15 72 (moveC 4 2 2 m 0 N), .blk g14 70 (R), .blk g11 32 D, .os 5 (.slice A5 bl c5) (ints .u8 bs), .os 5 (.slice A3 m c3) (ints .u8 xs)])) [1] []
            (fun iK u E => match iK with
              | 1 => u = .agg (moveC 4 2 s m 0 0).toArray ∧ E = []
              | _ => False)
            ([]) (by kernel_rfl) (by kernel_rfl) hS ?_
          show wpS _ _ _ _ _ _ _ _ _ _ [0, 1, 2, 3, 4, 5, 6, 7, 8, 9, 10, 11, 12, 13, 14, 15, 16, 17, 18, 19, 20, 21, 22, 23, 24, 25, 26, 27, 28, 29, 30, 31] _
          apply wpS_read (i := 0) rfl rfl ⟨_, hS⟩ rfl -- Op.load 70 t18
          · intro w' hT'
            simp only [List.getElem_toArray, List.getElem_cons_zero, List.getElem_cons_succ]
            have ck : w'.cell? ⟨g15, 1, none⟩ = some (.int .i64 2) := hT'.cell 5 rfl 1
            have cb : w'.cell? ⟨g18, 102, none⟩ = some (.slice none 0 0) := (hT'.cell 0 rfl 102).trans HE102.out
            go_wp2_with (first
              | (refine hs_loadW hT' 0 rfl rfl 70 _ rfl rfl 108 sizeRow HEL.out _ undRow.choose_spec rfl _ rfl ?_)
              | (refine hs_loadN hT' 0 rfl rfl 32 _ rfl 3 rfl DZ HEN.out 99 sizeDesc HZDL.out _ undDesc.choose_spec rfl _ rfl ?_)
              | (refine build_to rfl 32 _ rfl DZ.toArray (by rw [Array.toList_map]; exact HBZ.out) ?_)
              | (refine bin_to rfl _ _ _ _ _ rfl (moveC 4 2 s m 0 0).toArray (moveC 4 2 s m 0 0).toArray rfl rfl guardMove (.bool false) (move_neq _ _ _ _ _ _) _ rfl ?_)
              | (refine bin_to rfl _ _ _ _ _ rfl DZ.toArray DZ.toArray rfl rfl guardDesc (.bool false) HEQ.out _ rfl ?_)
              | fail)
            first | exact ⟨rfl, rfl, rfl⟩ | rfl
          refine wpS_soft (i := 1) rfl rfl rfl (Nat.le_of_ble_eq_true rfl) ?_ ?_ -- Op.call { value (Operand.func 31), args := #[t76], argTypes := #[70]
          · intro w' hT
            simp only [List.getElem_toArray, List.getElem_cons_zero, List.getElem_cons_succ]
            go_wp2_with (first
              | (go_at_call 31; refine (told_end E 4 2 s m _ HEL.out HE0.out HE1.out HE2.out HE4.out (by omega) HE107.out (by omega)).mono ?_; rintro e w6 ⟨rfl, hB6⟩)
              | fail)
            exact SoftP.mk' (.agg (moveC 4 2 s m 0 0).toArray) ([]) rfl (⟨rfl, rfl⟩) (hT.below hB6) (hB6) (fun _ h => by cases h)
          intro u1 E1 hK1
          obtain ⟨rfl, rfl⟩ := hK1
          simp only [Act.put, List.setIfInBounds_toArray, List.set_cons_zero, List.set_cons_succ]
          apply wpS_read (i := 2) rfl rfl ⟨_, hS⟩ rfl -- Op.fieldAddr 72 t15 1
          · intro w' hT'
            simp only [List.getElem_toArray, List.getElem_cons_zero, List.getElem_cons_succ]
            go_wp2_with fail
            first | exact ⟨rfl, rfl, rfl⟩ | rfl
          apply wpS_read (i := 3) rfl rfl ⟨_, hS⟩ rfl -- Op.load 3 t78
          · intro w' hT'
            simp only [List.getElem_toArray, List.getElem_cons_zero, List.getElem_cons_succ]
            have ck : w'.cell? ⟨g15, 1, none⟩ = some (.int .i64 2) := hT'.cell 5 rfl 1
            have cb : w'.cell? ⟨g18, 102, none⟩ = some (.slice none 0 0) := (hT'.cell 0 rfl 102).trans HE102.out
            go_wp2_with (first
              | (refine hs_loadW hT' 0 rfl rfl 70 _ rfl rfl 108 sizeRow HEL.out _ undRow.choose_spec rfl _ rfl ?_)
              | (refine hs_loadN hT' 0 rfl rfl 32 _ rfl 3 rfl DZ HEN.out 99 sizeDesc HZDL.out _ undDesc.choose_spec rfl _ rfl ?_)
              | (refine build_to rfl 32 _ rfl DZ.toArray (by rw [Array.toList_map]; exact HBZ.out) ?_)
              | (refine bin_to rfl _ _ _ _ _ rfl (moveC 4 2 s m 0 0).toArray (moveC 4 2 s m 0 0).toArray rfl rfl guardMove (.bool false) (move_neq _ _ _ _ _ _) _ rfl ?_)
              | (refine bin_to rfl _ _ _ _ _ rfl DZ.toArray DZ.toArray rfl rfl guardDesc (.bool false) HEQ.out _ rfl ?_)
              | fail)
            first | exact ⟨rfl, rfl, rfl⟩ | rfl
          apply wpS_read (i := 4) rfl rfl ⟨_, hS⟩ rfl -- Op.move t17
          · intro w' hT'
            simp only [List.getElem_toArray, List.getElem_cons_zero, List.getElem_cons_succ]
            go_wp2_with fail
            first | exact ⟨rfl, rfl, rfl⟩ | rfl
          apply wpS_read (i := 5) rfl rfl ⟨_, hS⟩ rfl -- Op.move t1
          · intro w' hT'
            simp only [List.getElem_toArray, List.getElem_cons_zero, List.getElem_cons_succ]
            go_wp2_with fail
            first | exact ⟨rfl, rfl, rfl⟩ | rfl
          apply wpS_read (i := 6) rfl rfl ⟨_, hS⟩ rfl -- Op.build 72 #[(0, const (4:i64)), (1, t79), (2, t80), (3, t81)]
          · intro w' hT'
            simp only [List.getElem_toArray, List.getElem_cons_zero, List.getElem_cons_succ]
            go_wp2_with (first
              | (refine hs_loadW hT' 0 rfl rfl 70 _ rfl rfl 108 sizeRow HEL.out _ undRow.choose_spec rfl _ rfl ?_)
              | (refine hs_loadN hT' 0 rfl rfl 32 _ rfl 3 rfl DZ HEN.out 99 sizeDesc HZDL.out _ undDesc.choose_spec rfl _ rfl ?_)
              | (refine build_to rfl 32 _ rfl DZ.toArray (by rw [Array.toList_map]; exact HBZ.out) ?_)
              | (refine bin_to rfl _ _ _ _ _ rfl (moveC 4 2 s m 0 0).toArray (moveC 4 2 s m 0 0).toArray rfl rfl guardMove (.bool false) (move_neq _ _ _ _ _ _) _ rfl ?_)
              | (refine bin_to rfl _ _ _ _ _ rfl DZ.toArray DZ.toArray rfl rfl guardDesc (.bool false) HEQ.out _ rfl ?_)
              | fail)
            first | exact ⟨rfl, rfl, rfl⟩ | rfl
          apply wpS_read (i := 7) rfl rfl ⟨_, hS⟩ rfl -- Op.binOp BinOp.neq 72 t77 t82 72
          · intro w' hT'
            simp only [List.getElem_toArray, List.getElem_cons_zero, List.getElem_cons_succ]
            go_wp2_with (first
              | (refine hs_loadW hT' 0 rfl rfl 70 _ rfl rfl 108 sizeRow HEL.out _ undRow.choose_spec rfl _ rfl ?_)
              | (refine hs_loadN hT' 0 rfl rfl 32 _ rfl 3 rfl DZ HEN.out 99 sizeDesc HZDL.out _ undDesc.choose_spec rfl _ rfl ?_)
              | (refine build_to rfl 32 _ rfl DZ.toArray (by rw [Array.toList_map]; exact HBZ.out) ?_)
              | (refine bin_to rfl _ _ _ _ _ rfl (moveC 4 2 s m 0 0).toArray (moveC 4 2 s m 0 0).toArray rfl rfl guardMove (.bool false) (move_neq _ _ _ _ _ _) _ rfl ?_)
              | (refine bin_to rfl _ _ _ _ _ rfl DZ.toArray DZ.toArray rfl rfl guardDesc (.bool false) HEQ.out _ rfl ?_)
              | fail)
            first | exact ⟨rfl, rfl, rfl⟩ | rfl
          apply wpS_read (i := 8) rfl rfl ⟨_, hS⟩ rfl -- Op.move t83
          · intro w' hT'
            simp only [List.getElem_toArray, List.getElem_cons_zero, List.getElem_cons_succ]
            go_wp2_with fail
            first | exact ⟨rfl, rfl, rfl⟩ | rfl
          apply wpS_read (i := 9) rfl rfl ⟨_, hS⟩ rfl -- Op.fieldAddr 70 t18 3
          · intro w' hT'
            simp only [List.getElem_toArray, List.getElem_cons_zero, List.getElem_cons_succ]
            go_wp2_with fail
            first | exact ⟨rfl, rfl, rfl⟩ | rfl
          apply wpS_read (i := 10) rfl rfl ⟨_, hS⟩ rfl -- Op.load 32 t85
          · intro w' hT'
            simp only [List.getElem_toArray, List.getElem_cons_zero, List.getElem_cons_succ]
            have ck : w'.cell? ⟨g15, 1, none⟩ = some (.int .i64 2) := hT'.cell 5 rfl 1
            have cb : w'.cell? ⟨g18, 102, none⟩ = some (.slice none 0 0) := (hT'.cell 0 rfl 102).trans HE102.out
            go_wp2_with (first
              | (refine hs_loadW hT' 0 rfl rfl 70 _ rfl rfl 108 sizeRow HEL.out _ undRow.choose_spec rfl _ rfl ?_)
              | (refine hs_loadN hT' 0 rfl rfl 32 _ rfl 3 rfl DZ HEN.out 99 sizeDesc HZDL.out _ undDesc.choose_spec rfl _ rfl ?_)
              | (refine build_to rfl 32 _ rfl DZ.toArray (by rw [Array.toList_map]; exact HBZ.out) ?_)
              | (refine bin_to rfl _ _ _ _ _ rfl (moveC 4 2 s m 0 0).toArray (moveC 4 2 s m 0 0).toArray rfl rfl guardMove (.bool false) (move_neq _ _ _ _ _ _) _ rfl ?_)
              | (refine bin_to rfl _ _ _ _ _ rfl DZ.toArray DZ.toArray rfl rfl guardDesc (.bool false) HEQ.out _ rfl ?_)
              | fail)
            first | exact ⟨rfl, rfl, rfl⟩ | rfl
          apply wpS_read (i := 11) rfl rfl ⟨_, hS⟩ rfl -- Op.move t1
          · intro w' hT'
            simp only [List.getElem_toArray, List.getElem_cons_zero, List.getElem_cons_succ]
            go_wp2_with fail
            first | exact ⟨rfl, rfl, rfl⟩ | rfl
          apply wpS_read (i := 12) rfl rfl ⟨_, hS⟩ rfl -- Op.convert 3 29 t87
          · intro w' hT'
            simp only [List.getElem_toArray, List.getElem_cons_zero, List.getElem_cons_succ]
            go_wp2_with (first
              | (refine hs_loadW hT' 0 rfl rfl 70 _ rfl rfl 108 sizeRow HEL.out _ undRow.choose_spec rfl _ rfl ?_)
              | (refine hs_loadN hT' 0 rfl rfl 32 _ rfl 3 rfl DZ HEN.out 99 sizeDesc HZDL.out _ undDesc.choose_spec rfl _ rfl ?_)
              | (refine build_to rfl 32 _ rfl DZ.toArray (by rw [Array.toList_map]; exact HBZ.out) ?_)
              | (refine bin_to rfl _ _ _ _ _ rfl (moveC 4 2 s m 0 0).toArray (moveC 4 2 s m 0 0).toArray rfl rfl guardMove (.bool false) (move_neq _ _ _ _ _ _) _ rfl ?_)
              | (refine bin_to rfl _ _ _ _ _ rfl DZ.toArray DZ.toArray rfl rfl guardDesc (.bool false) HEQ.out _ rfl ?_)
              | fail)
            first | exact ⟨rfl, rfl, rfl⟩ | rfl
          apply wpS_read (i := 13) rfl rfl ⟨_, hS⟩ rfl -- Op.build 32 #[(0, const (9:u32)), (1, t88), (2, const (10:u32))]
          · intro w' hT'
            simp only [List.getElem_toArray, List.getElem_cons_zero, List.getElem_cons_succ]
            go_wp2_with (first
              | (refine hs_loadW hT' 0 rfl rfl 70 _ rfl rfl 108 sizeRow HEL.out _ undRow.choose_spec rfl _ rfl ?_)
              | (refine hs_loadN hT' 0 rfl rfl 32 _ rfl 3 rfl DZ HEN.out 99 sizeDesc HZDL.out _ undDesc.choose_spec rfl _ rfl ?_)
              | (refine build_to rfl 32 _ rfl DZ.toArray (by rw [Array.toList_map]; exact HBZ.out) ?_)
              | (refine bin_to rfl _ _ _ _ _ rfl (moveC 4 2 s m 0 0).toArray (moveC 4 2 s m 0 0).toArray rfl rfl guardMove (.bool false) (move_neq _ _ _ _ _ _) _ rfl ?_)
              | (refine bin_to rfl _ _ _ _ _ rfl DZ.toArray DZ.toArray rfl rfl guardDesc (.bool false) HEQ.out _ rfl ?_)
              | fail)
            first | exact ⟨rfl, rfl, rfl⟩ | rfl
          apply wpS_read (i := 14) rfl rfl ⟨_, hS⟩ rfl -- Op.binOp BinOp.neq 32 t86 t89 32
          · intro w' hT'
            simp only [List.getElem_toArray, List.getElem_cons_zero, List.getElem_cons_succ]
            go_wp2_with (first
              | (refine hs_loadW hT' 0 rfl rfl 70 _ rfl rfl 108 sizeRow HEL.out _ undRow.choose_spec rfl _ rfl ?_)
              | (refine hs_loadN hT' 0 rfl rfl 32 _ rfl 3 rfl DZ HEN.out 99 sizeDesc HZDL.out _ undDesc.choose_spec rfl _ rfl ?_)
              | (refine build_to rfl 32 _ rfl DZ.toArray (by rw [Array.toList_map]; exact HBZ.out) ?_)
              | (refine bin_to rfl _ _ _ _ _ rfl (moveC 4 2 s m 0 0).toArray (moveC 4 2 s m 0 0).toArray rfl rfl guardMove (.bool false) (move_neq _ _ _ _ _ _) _ rfl ?_)
              | (refine bin_to rfl _ _ _ _ _ rfl DZ.toArray DZ.toArray rfl rfl guardDesc (.bool false) HEQ.out _ rfl ?_)
              | fail)
            first | exact ⟨rfl, rfl, rfl⟩ | rfl
          apply wpS_read (i := 15) rfl rfl ⟨_, hS⟩ rfl -- Op.pick t84 (const (Value.bool true)) t90
          · intro w' hT'
            simp only [List.getElem_toArray, List.getElem_cons_zero, List.getElem_cons_succ]
            go_wp2_with fail
            first | exact ⟨rfl, rfl, rfl⟩ | rfl
          apply wpS_read (i := 16) rfl rfl ⟨_, hS⟩ rfl -- Op.move t91
          · intro w' hT'
            simp only [List.getElem_toArray, List.getElem_cons_zero, List.getElem_cons_succ]
            go_wp2_with fail
            first | exact ⟨rfl, rfl, rfl⟩ | rfl
          apply wpS_read (i := 17) rfl rfl ⟨_, hS⟩ rfl -- Op.fieldAddr 70 t18 4
          · intro w' hT'
            simp only [List.getElem_toArray, List.getElem_cons_zero, List.getElem_cons_succ]
            go_wp2_with fail
            first | exact ⟨rfl, rfl, rfl⟩ | rfl
          apply wpS_read (i := 18) rfl rfl ⟨_, hS⟩ rfl -- Op.load 24 t93
          · intro w' hT'
            simp only [List.getElem_toArray, List.getElem_cons_zero, List.getElem_cons_succ]
            have ck : w'.cell? ⟨g15, 1, none⟩ = some (.int .i64 2) := hT'.cell 5 rfl 1
            have cb : w'.cell? ⟨g18, 102, none⟩ = some (.slice none 0 0) := (hT'.cell 0 rfl 102).trans HE102.out
            go_wp2_with (first
              | (refine hs_loadW hT' 0 rfl rfl 70 _ rfl rfl 108 sizeRow HEL.out _ undRow.choose_spec rfl _ rfl ?_)
              | (refine hs_loadN hT' 0 rfl rfl 32 _ rfl 3 rfl DZ HEN.out 99 sizeDesc HZDL.out _ undDesc.choose_spec rfl _ rfl ?_)
              | (refine build_to rfl 32 _ rfl DZ.toArray (by rw [Array.toList_map]; exact HBZ.out) ?_)
              | (refine bin_to rfl _ _ _ _ _ rfl (moveC 4 2 s m 0 0).toArray (moveC 4 2 s m 0 0).toArray rfl rfl guardMove (.bool false) (move_neq _ _ _ _ _ _) _ rfl ?_)
              | (refine bin_to rfl _ _ _ _ _ rfl DZ.toArray DZ.toArray rfl rfl guardDesc (.bool false) HEQ.out _ rfl ?_)
              | fail)
            first | exact ⟨rfl, rfl, rfl⟩ | rfl
          apply wpS_read (i := 19) rfl rfl ⟨_, hS⟩ rfl -- Op.call { builtin len, args := #[t94], argTypes := #[24] }
          · intro w' hT'
            simp only [List.getElem_toArray, List.getElem_cons_zero, List.getElem_cons_succ]
            go_wp2_with fail
            first | exact ⟨rfl, rfl, rfl⟩ | rfl
          apply wpS_read (i := 20) rfl rfl ⟨_, hS⟩ rfl -- Op.binOp BinOp.gtr 3 t95 (const (0:i64)) 3
          · intro w' hT'
            simp only [List.getElem_toArray, List.getElem_cons_zero, List.getElem_cons_succ]
            go_wp2_with (first
              | (refine hs_loadW hT' 0 rfl rfl 70 _ rfl rfl 108 sizeRow HEL.out _ undRow.choose_spec rfl _ rfl ?_)
              | (refine hs_loadN hT' 0 rfl rfl 32 _ rfl 3 rfl DZ HEN.out 99 sizeDesc HZDL.out _ undDesc.choose_spec rfl _ rfl ?_)
              | (refine build_to rfl 32 _ rfl DZ.toArray (by rw [Array.toList_map]; exact HBZ.out) ?_)
              | (refine bin_to rfl _ _ _ _ _ rfl (moveC 4 2 s m 0 0).toArray (moveC 4 2 s m 0 0).toArray rfl rfl guardMove (.bool false) (move_neq _ _ _ _ _ _) _ rfl ?_)
              | (refine bin_to rfl _ _ _ _ _ rfl DZ.toArray DZ.toArray rfl rfl guardDesc (.bool false) HEQ.out _ rfl ?_)
              | fail)
            first | exact ⟨rfl, rfl, rfl⟩ | rfl
          apply wpS_read (i := 21) rfl rfl ⟨_, hS⟩ rfl -- Op.move t3
          · intro w' hT'
            simp only [List.getElem_toArray, List.getElem_cons_zero, List.getElem_cons_succ]
            go_wp2_with fail
            first | exact ⟨rfl, rfl, rfl⟩ | rfl
          apply wpS_read (i := 22) rfl rfl ⟨_, hS⟩ rfl -- Op.move t97
          · intro w' hT'
            simp only [List.getElem_toArray, List.getElem_cons_zero, List.getElem_cons_succ]
            go_wp2_with fail
            first | exact ⟨rfl, rfl, rfl⟩ | rfl
          apply wpS_read (i := 23) rfl rfl ⟨_, hS⟩ rfl -- Op.move t17
          · intro w' hT'
            simp only [List.getElem_toArray, List.getElem_cons_zero, List.getElem_cons_succ]
            go_wp2_with fail
            first | exact ⟨rfl, rfl, rfl⟩ | rfl
          apply wpS_read (i := 24) rfl rfl ⟨_, hS⟩ rfl -- Op.binOp BinOp.eql 3 t99 (const (3:i64)) 3
          · intro w' hT'
            simp only [List.getElem_toArray, List.getElem_cons_zero, List.getElem_cons_succ]
            go_wp2_with (first
              | (refine hs_loadW hT' 0 rfl rfl 70 _ rfl rfl 108 sizeRow HEL.out _ undRow.choose_spec rfl _ rfl ?_)
              | (refine hs_loadN hT' 0 rfl rfl 32 _ rfl 3 rfl DZ HEN.out 99 sizeDesc HZDL.out _ undDesc.choose_spec rfl _ rfl ?_)
              | (refine build_to rfl 32 _ rfl DZ.toArray (by rw [Array.toList_map]; exact HBZ.out) ?_)
              | (refine bin_to rfl _ _ _ _ _ rfl (moveC 4 2 s m 0 0).toArray (moveC 4 2 s m 0 0).toArray rfl rfl guardMove (.bool false) (move_neq _ _ _ _ _ _) _ rfl ?_)
              | (refine bin_to rfl _ _ _ _ _ rfl DZ.toArray DZ.toArray rfl rfl guardDesc (.bool false) HEQ.out _ rfl ?_)
              | fail)
            first | exact ⟨rfl, rfl, rfl⟩ | rfl
          apply wpS_read (i := 25) rfl rfl ⟨_, hS⟩ rfl -- Op.pick t98 t100 (const (Value.bool false))
          · intro w' hT'
            simp only [List.getElem_toArray, List.getElem_cons_zero, List.getElem_cons_succ]
            go_wp2_with fail
            first | exact ⟨rfl, rfl, rfl⟩ | rfl
          apply wpS_read (i := 26) rfl rfl ⟨_, hS⟩ rfl -- Op.move t101
          · intro w' hT'
            simp only [List.getElem_toArray, List.getElem_cons_zero, List.getElem_cons_succ]
            go_wp2_with fail
            first | exact ⟨rfl, rfl, rfl⟩ | rfl
          apply wpS_read (i := 27) rfl rfl ⟨_, hS⟩ rfl -- Op.move t1
          · intro w' hT'
            simp only [List.getElem_toArray, List.getElem_cons_zero, List.getElem_cons_succ]
            go_wp2_with fail
            first | exact ⟨rfl, rfl, rfl⟩ | rfl
          apply wpS_read (i := 28) rfl rfl ⟨_, hS⟩ rfl -- Op.binOp BinOp.gtr 3 t103 (const (0:i64)) 3
          · intro w' hT'
            simp only [List.getElem_toArray, List.getElem_cons_zero, List.getElem_cons_succ]
            go_wp2_with (first
              | (refine hs_loadW hT' 0 rfl rfl 70 _ rfl rfl 108 sizeRow HEL.out _ undRow.choose_spec rfl _ rfl ?_)
              | (refine hs_loadN hT' 0 rfl rfl 32 _ rfl 3 rfl DZ HEN.out 99 sizeDesc HZDL.out _ undDesc.choose_spec rfl _ rfl ?_)
              | (refine build_to rfl 32 _ rfl DZ.toArray (by rw [Array.toList_map]; exact HBZ.out) ?_)
              | (refine bin_to rfl _ _ _ _ _ rfl (moveC 4 2 s m 0 0).toArray (moveC 4 2 s m 0 0).toArray rfl rfl guardMove (.bool false) (move_neq _ _ _ _ _ _) _ rfl ?_)
              | (refine bin_to rfl _ _ _ _ _ rfl DZ.toArray DZ.toArray rfl rfl guardDesc (.bool false) HEQ.out _ rfl ?_)
              | fail)
            first | exact ⟨rfl, rfl, rfl⟩ | rfl
          apply wpS_read (i := 29) rfl rfl ⟨_, hS⟩ rfl -- Op.pick t102 t104 (const (Value.bool false))
          · intro w' hT'
            simp only [List.getElem_toArray, List.getElem_cons_zero, List.getElem_cons_succ]
            go_wp2_with fail
            first | exact ⟨rfl, rfl, rfl⟩ | rfl
          apply wpS_read (i := 30) rfl rfl ⟨_, hS⟩ rfl -- Op.binOp BinOp.neq 4 t96 t105 4
          · intro w' hT'
            simp only [List.getElem_toArray, List.getElem_cons_zero, List.getElem_cons_succ]
            go_wp2_with (first
              | (refine hs_loadW hT' 0 rfl rfl 70 _ rfl rfl 108 sizeRow HEL.out _ undRow.choose_spec rfl _ rfl ?_)
              | (refine hs_loadN hT' 0 rfl rfl 32 _ rfl 3 rfl DZ HEN.out 99 sizeDesc HZDL.out _ undDesc.choose_spec rfl _ rfl ?_)
              | (refine build_to rfl 32 _ rfl DZ.toArray (by rw [Array.toList_map]; exact HBZ.out) ?_)
              | (refine bin_to rfl _ _ _ _ _ rfl (moveC 4 2 s m 0 0).toArray (moveC 4 2 s m 0 0).toArray rfl rfl guardMove (.bool false) (move_neq _ _ _ _ _ _) _ rfl ?_)
              | (refine bin_to rfl _ _ _ _ _ rfl DZ.toArray DZ.toArray rfl rfl guardDesc (.bool false) HEQ.out _ rfl ?_)
              | fail)
            first | exact ⟨rfl, rfl, rfl⟩ | rfl
          apply wpS_read (i := 31) rfl rfl ⟨_, hS⟩ rfl -- Op.pick t92 (const (Value.bool true)) t106
          · intro w' hT'
            simp only [List.getElem_toArray, List.getElem_cons_zero, List.getElem_cons_succ]
            go_wp2_with fail
            first | exact ⟨rfl, rfl, rfl⟩ | rfl
          refine wpS_end ?_
          intro wz hT
          try dsimp only
          clear hS
          have hS : HS NoF w wz (.blk g18 70 E :: [.blk gd 122 (downC D (.slice none 0 0) false (.pointer (some ⟨g, 0, none⟩)) (.slice (some ⟨gw, 0, none⟩) m m) 0 0), .os 5 (.slice (some ⟨gw, 0, none⟩) m m) (ints .u8 (List.replicate m 0)), .blk g 148 [.int .i64 N, .slice (some ⟨gb, 0, none⟩) kb kb], .os 5 (.slice (some ⟨gb, 0, none⟩) kb kb) (ints .u8 (List.replicate kb 0)), .blk g15 72 (moveC 4 2 2 m 0 N), .blk g14 70 (R), .blk g11 32 D, .os 5 (.slice A5 bl c5) (ints .u8 bs), .os 5 (.slice A3 m c3) (ints .u8 xs)]) := hT
          clear hT
          go_wp2_with fail
          go_roundg (gk - 1)
          case measure => have := hq.out; omega
          case rel => exact ⟨s + 1, by omega, by omega, by go_num, hid (by have := hq.out; omega), hS.erase 0⟩
      · have hlt2 : ¬ (s : Int) ≤ 5 := by omega
        go_wp2_with fail
        go_ret
        exact ⟨rfl, hS.bel⟩
  · go_wp2_with (first
      | (go_at_call 9; refine (file_calls n m _ (by omega)).mono ?_; rintro e w3 ⟨v3, rfl, ho, hB⟩; obtain ⟨A3, c3, h3, hc3, _, _⟩ := ho.slice; rw [fileTo_length] at h3 hc3; subst h3; replace hS := hS.pushOwn hB ho; rw [hxs.out] at hS; clear ho hB)
      | (go_at_call 10; refine (keyC_calls n _).mono ?_; rintro e w4 ⟨rfl, hB⟩; rw [hK.out]; replace hS : HS NoF w w4 [.os 5 (.slice A3 m c3) (ints .u8 xs)] := hS.below hB; clear hB)
      | (go_at_call 29; refine (HMK.out A3 c3 _ (hS.os 0 rfl).len.2.2.2 hc3 ((hS.os 0 rfl).rd rfl)).mono ?_; rintro e w5 ⟨v5, rfl, hox, hown, hB⟩; obtain ⟨A5, c5, h5, hc5, _⟩ := hox.parts; rw [ints_length, hbl.out] at h5 hc5; subst h5; replace hS : HS NoF w w5 [.os 5 (.slice A5 bl c5) (ints .u8 bs), .os 5 (.slice A3 m c3) (ints .u8 xs)] := hS.push hB _ hox (fun k hk => (by have := hown k hk; exact Nat.le_trans (by omega) this)); clear hox hown hB)
      | (refine alloc_blk rfl 32 rfl _ rfl zeroD zeroDesc ?_; intro g11 w11 hga hba hBa hsa; replace hS : HS NoF w w11 [.blk g11 32 zeroD, .os 5 (.slice A5 bl c5) (ints .u8 bs), .os 5 (.slice A3 m c3) (ints .u8 xs)] := hS.pushBlk hBa hba hga; clear hga hba hBa hsa)
      | (refine hs_storeW hS 0 rfl rfl 32 _ _ rfl rfl D rfl HD1.out 99 sizeDesc HDL.out HZ1.out _ rfl ?_; clear hS; intro w6 hS; replace hS : HS NoF w w6 [.blk g11 32 D, .os 5 (.slice A5 bl c5) (ints .u8 bs), .os 5 (.slice A3 m c3) (ints .u8 xs)] := hS)
      | (refine hs_loadW hS 0 rfl rfl 32 _ rfl rfl 99 sizeDesc HDL.out _ undDesc.choose_spec rfl _ rfl ?_)
      | (refine build_to rfl 70 _ rfl (rowC 4 1 2 D (.slice A5 bl c5) [.int .i64 0, .int .i64 0, .int .i64 0, .int .i64 0] (.pointer none)).toArray (by rw [Array.toList_map]; exact HBU.out A5 bl c5) ?_)
      | (refine alloc_blk rfl 70 rfl _ rfl rowZ zeroRow ?_; intro g14 w7 hga hba hBa hsa; replace hS : HS NoF w w7 [.blk g14 70 rowZ, .blk g11 32 D, .os 5 (.slice A5 bl c5) (ints .u8 bs), .os 5 (.slice A3 m c3) (ints .u8 xs)] := hS.pushBlk hBa hba hga; clear hga hba hBa hsa)
      | (refine hs_storeW hS 0 rfl rfl 70 _ _ rfl rfl (rowC 4 1 2 D (.slice A5 bl c5) [.int .i64 0, .int .i64 0, .int .i64 0, .int .i64 0] (.pointer none)) rfl (rowC_one _ _ _ _ _ _ _ _ _ _ HD1.out rfl rfl) 108 sizeRow (rowC_get _ _ _ _ _ _ _ _ _ _ HDL.out _ rfl).1 rowZ_length _ rfl ?_; clear hS; intro w8 hS; replace hS : HS NoF w w8 [.blk g14 70 (rowC 4 1 2 D (.slice A5 bl c5) [.int .i64 0, .int .i64 0, .int .i64 0, .int .i64 0] (.pointer none)), .blk g11 32 D, .os 5 (.slice A5 bl c5) (ints .u8 bs), .os 5 (.slice A3 m c3) (ints .u8 xs)] := hS)
      | fail)
    refine (numN_calls at_ bl _ (by omega) (by omega)).mono ?_
    rintro e w9 ⟨aa, hu, rfl, hw9⟩
    subst hw9
    have hu2 : aa < bl := by omega
    clear hu
    go_wp2_with (first
      | (refine hs_store1 hS 0 rfl rfl 3 _ _ rfl 104 rfl (.int .i64 (aa : Int)) rfl rfl sizeIntM (by rw [(rowC_get _ _ _ _ _ _ _ _ _ _ HDL.out _ rfl).1]; decide) _ rfl ?_; clear hS; intro w10 hS; replace hS : HS NoF w w10 [.blk g14 70 ((rowC 4 1 2 D (.slice A5 bl c5) [.int .i64 0, .int .i64 0, .int .i64 0, .int .i64 0] (.pointer none)).set 104 (.int .i64 (aa : Int))), .blk g11 32 D, .os 5 (.slice A5 bl c5) (ints .u8 bs), .os 5 (.slice A3 m c3) (ints .u8 xs)] := hS; rw [rowC_set104 _ _ _ _ _ _ _ _ _ _ _ HDL.out] at hS; have c104 : w10.cell? ⟨g14, 104, none⟩ = some (.int .i64 (aa : Int)) := (hS.cell 0 rfl 104).trans (rowC_get _ _ _ _ _ _ _ _ _ _ HDL.out _ rfl).2.2.2.2.2.2.2.2.1)
      | (refine alloc_blk rfl 72 rfl _ rfl (moveC 0 0 0 0 0 0) zeroMove ?_; intro g15 w12 hga hba hBa hsa; replace hS : HS NoF w w12 [.blk g15 72 (moveC 0 0 0 0 0 0), .blk g14 70 (rowC 4 1 2 D (.slice A5 bl c5) [.int .i64 0, .int .i64 aa, .int .i64 0, .int .i64 0] (.pointer none)), .blk g11 32 D, .os 5 (.slice A5 bl c5) (ints .u8 bs), .os 5 (.slice A3 m c3) (ints .u8 xs)] := hS.pushBlk hBa hba hga; clear hga hba hBa hsa)
      | (refine hs_storeW hS 0 rfl rfl 72 _ _ rfl rfl (moveC 4 1 2 m aa bl) rfl (moveC_one _ _ _ _ _ _) 6 sizeMove rfl rfl _ rfl ?_; clear hS; intro w13 hS; replace hS : HS NoF w w13 [.blk g15 72 (moveC 4 1 2 m aa bl), .blk g14 70 (rowC 4 1 2 D (.slice A5 bl c5) [.int .i64 0, .int .i64 aa, .int .i64 0, .int .i64 0] (.pointer none)), .blk g11 32 D, .os 5 (.slice A5 bl c5) (ints .u8 bs), .os 5 (.slice A3 m c3) (ints .u8 xs)] := hS)
      | (refine hs_loadW hS 2 rfl rfl 32 _ rfl rfl 99 sizeDesc HDL.out _ undDesc.choose_spec rfl _ rfl ?_)
      | (go_at_call 30; refine (HDN.out _).mono ?_; rintro e w14 ⟨gd, g, gb, gw, rfl, hq⟩; replace hS : HS NoF w w14 [.blk gd 122 (downC D (.slice none 0 0) false (.pointer (some ⟨g, 0, none⟩)) (.slice (some ⟨gw, 0, none⟩) m m) 0 0), .os 5 (.slice (some ⟨gw, 0, none⟩) m m) (ints .u8 (List.replicate m 0)), .blk g 148 [.int .i64 1, .slice (some ⟨gb, 0, none⟩) kb kb], .os 5 (.slice (some ⟨gb, 0, none⟩) kb kb) (ints .u8 (List.replicate kb 0)), .blk g15 72 (moveC 4 1 2 m aa bl), .blk g14 70 (rowC 4 1 2 D (.slice A5 bl c5) [.int .i64 0, .int .i64 aa, .int .i64 0, .int .i64 0] (.pointer none)), .blk g11 32 D, .os 5 (.slice A5 bl c5) (ints .u8 bs), .os 5 (.slice A3 m c3) (ints .u8 xs)] := HS.call (A := []) hS hq (fun _ h => h.elim))
      | (refine hs_loadW hS 6 rfl rfl 32 _ rfl rfl 99 sizeDesc HDL.out _ undDesc.choose_spec rfl _ rfl ?_)
      | (refine build_to rfl 70 _ rfl (rowC 4 2 2 D (.slice none 0 0) [.int .i64 0, .int .i64 0, .int .i64 0, .int .i64 0] (.pointer (some ⟨gd, 0, none⟩))).toArray (by rw [Array.toList_map]; exact HBD.out gd) ?_)
      | (refine hs_storeW hS 5 rfl rfl 70 _ _ rfl rfl (rowC 4 2 2 D (.slice none 0 0) [.int .i64 0, .int .i64 0, .int .i64 0, .int .i64 0] (.pointer (some ⟨gd, 0, none⟩))) rfl (rowC_one _ _ _ _ _ _ _ _ _ _ HD1.out rfl rfl) 108 sizeRow (rowC_get _ _ _ _ _ _ _ _ _ _ HDL.out _ rfl).1 (rowC_get _ _ _ _ _ _ _ _ _ _ HDL.out _ rfl).1 _ rfl ?_; clear hS; intro w15 hS; replace hS : HS NoF w w15 [.blk gd 122 (downC D (.slice none 0 0) false (.pointer (some ⟨g, 0, none⟩)) (.slice (some ⟨gw, 0, none⟩) m m) 0 0), .os 5 (.slice (some ⟨gw, 0, none⟩) m m) (ints .u8 (List.replicate m 0)), .blk g 148 [.int .i64 1, .slice (some ⟨gb, 0, none⟩) kb kb], .os 5 (.slice (some ⟨gb, 0, none⟩) kb kb) (ints .u8 (List.replicate kb 0)), .blk g15 72 (moveC 4 1 2 m aa bl), .blk g14 70 (rowC 4 2 2 D (.slice none 0 0) [.int .i64 0, .int .i64 0, .int .i64 0, .int .i64 0] (.pointer (some ⟨gd, 0, none⟩))), .blk g11 32 D, .os 5 (.slice A5 bl c5) (ints .u8 bs), .os 5 (.slice A3 m c3) (ints .u8 xs)] := hS)
      | (refine hs_storeW hS 4 rfl rfl 72 _ _ rfl rfl (moveC 4 2 2 m 0 1) rfl (moveC_one _ _ _ _ _ _) 6 sizeMove rfl rfl _ rfl ?_; clear hS; intro w16 hS; replace hS : HS NoF w w16 [.blk gd 122 (downC D (.slice none 0 0) false (.pointer (some ⟨g, 0, none⟩)) (.slice (some ⟨gw, 0, none⟩) m m) 0 0), .os 5 (.slice (some ⟨gw, 0, none⟩) m m) (ints .u8 (List.replicate m 0)), .blk g 148 [.int .i64 1, .slice (some ⟨gb, 0, none⟩) kb kb], .os 5 (.slice (some ⟨gb, 0, none⟩) kb kb) (ints .u8 (List.replicate kb 0)), .blk g15 72 (moveC 4 2 2 m 0 1), .blk g14 70 (rowC 4 2 2 D (.slice none 0 0) [.int .i64 0, .int .i64 0, .int .i64 0, .int .i64 0] (.pointer (some ⟨gd, 0, none⟩))), .blk g11 32 D, .os 5 (.slice A5 bl c5) (ints .u8 bs), .os 5 (.slice A3 m c3) (ints .u8 xs)] := hS)
      | fail)
    obtain ⟨R, hR⟩ : ∃ R, rowC 4 2 2 D (.slice none 0 0) [.int .i64 0, .int .i64 0, .int .i64 0, .int .i64 0] (.pointer (some ⟨gd, 0, none⟩)) = R := ⟨_, rfl⟩
    have HR := rowC_get _ _ _ _ _ _ _ _ _ _ HDL.out R hR
    have HRE := hid hR
    have HRL2 := hid HR.1
    have HR0 := hid HR.2.1
    have HR1 := hid HR.2.2.1
    have HR2 := hid HR.2.2.2.1
    have HR3 := hid (HR.2.2.2.2.1.trans HD00.out)
    have HR4 := hid (HR.2.2.2.2.2.1.trans HD01.out)
    have HR5 := hid (HR.2.2.2.2.2.2.1.trans HD02.out)
    have HR102 := hid HR.2.2.2.2.2.2.2.1
    have HR104 := hid HR.2.2.2.2.2.2.2.2.1
    have HR107 := hid HR.2.2.2.2.2.2.2.2.2
    clear HR hR
    rw [HRE.out] at hS
    have HDG := hid (downC_get D (.slice none 0 0) (.pointer (some ⟨g, 0, none⟩)) (.slice (some ⟨gw, 0, none⟩) m m) false 0 0 HDL.out)
    try go_wp2_with fail
    refine wp_region_S (F := NoF) (w0 := w) (L0 := [.blk gd 122 (downC D (.slice none 0 0) false (.pointer (some ⟨g, 0, none⟩)) (.slice (some ⟨gw, 0, none⟩) m m) 0 0), .os 5 (.slice (some ⟨gw, 0, none⟩) m m) (ints .u8 (List.replicate m 0)), .blk g 148 [.int .i64 1, .slice (some ⟨gb, 0, none⟩) kb kb], .os 5 (.slice (some ⟨gb, 0, none⟩) kb kb) (ints .u8 (List.replicate kb 0)), .blk g15 72 (moveC 4 2 2 m 0 1), .blk g14 70 (R), .blk g11 32 D, .os 5 (.slice A5 bl c5) (ints .u8 bs), .os 5 (.slice A3 m c3) (ints .u8 xs)]) [1] []
      (fun iK u E => match iK with
        | 1 => u = .agg (moveC 4 2 2 m 0 1).toArray ∧ E = []
        | _ => False)
      ([]) (by kernel_rfl) (by kernel_rfl) hS ?_
    show wpS _ _ _ _ _ _ _ _ _ _ [0, 1, 2, 3] _
    apply wpS_read (i := 0) rfl rfl ⟨_, hS⟩ rfl -- Op.load 70 t14
    · intro w' hT'
      simp only [List.getElem_toArray, List.getElem_cons_zero, List.getElem_cons_succ]
      go_wp2_with (first
        | (refine hs_loadW hT' 5 rfl rfl 70 _ rfl rfl 108 sizeRow HRL2.out _ undRow.choose_spec rfl _ rfl ?_)
        | (refine hs_loadW hT' 4 rfl rfl 72 _ rfl rfl 6 sizeMove rfl _ undMove.choose_spec rfl _ rfl ?_)
        | (refine bin_to rfl _ _ _ _ _ rfl (moveC 4 2 2 m 0 1).toArray (moveC 4 2 2 m 0 1).toArray rfl rfl guardMove (.bool false) (move_neq _ _ _ _ _ _) _ rfl ?_)
        | fail)
      first | exact ⟨rfl, rfl, rfl⟩ | rfl
    refine wpS_soft (i := 1) rfl rfl rfl (Nat.le_of_ble_eq_true rfl) ?_ ?_ -- Op.call { value (Operand.func 31), args := #[t65], argTypes := #[70]
    · intro w' hT
      simp only [List.getElem_toArray, List.getElem_cons_zero, List.getElem_cons_succ]
      go_wp2_with (first
        | (go_at_call 31; refine (told_down R 4 2 2 m (List.replicate kb 0) 1 kb g gb gd _ HRL2.out HR0.out HR1.out HR2.out HR4.out (by omega) HR107.out ((hT.cell 0 rfl 101).trans HDG.out.1) (by omega) HKB.out (by simp) (bytesOk_zeros kb) (hT.cell 2 rfl 0) (hT.cell 2 rfl 1) (rd_at ((hT.os 3 rfl).rd rfl) (by simp))).mono ?_; rintro e w6 ⟨rfl, hB6⟩; rw [countB_zeros])
        | fail)
      exact SoftP.mk' (.agg (moveC 4 2 2 m 0 1).toArray) ([]) rfl (⟨rfl, rfl⟩) (hT.below hB6) (hB6) (fun _ h => by cases h)
    intro u1 E1 hK1
    obtain ⟨rfl, rfl⟩ := hK1
    simp only [Act.put, List.setIfInBounds_toArray, List.set_cons_zero, List.set_cons_succ]
    apply wpS_read (i := 2) rfl rfl ⟨_, hS⟩ rfl -- Op.load 72 t15
    · intro w' hT'
      simp only [List.getElem_toArray, List.getElem_cons_zero, List.getElem_cons_succ]
      go_wp2_with (first
        | (refine hs_loadW hT' 5 rfl rfl 70 _ rfl rfl 108 sizeRow HRL2.out _ undRow.choose_spec rfl _ rfl ?_)
        | (refine hs_loadW hT' 4 rfl rfl 72 _ rfl rfl 6 sizeMove rfl _ undMove.choose_spec rfl _ rfl ?_)
        | (refine bin_to rfl _ _ _ _ _ rfl (moveC 4 2 2 m 0 1).toArray (moveC 4 2 2 m 0 1).toArray rfl rfl guardMove (.bool false) (move_neq _ _ _ _ _ _) _ rfl ?_)
        | fail)
      first | exact ⟨rfl, rfl, rfl⟩ | rfl
    apply wpS_read (i := 3) rfl rfl ⟨_, hS⟩ rfl -- Op.binOp BinOp.neq 72 t66 t67 72
    · intro w' hT'
      simp only [List.getElem_toArray, List.getElem_cons_zero, List.getElem_cons_succ]
      go_wp2_with (first
        | (refine hs_loadW hT' 5 rfl rfl 70 _ rfl rfl 108 sizeRow HRL2.out _ undRow.choose_spec rfl _ rfl ?_)
        | (refine hs_loadW hT' 4 rfl rfl 72 _ rfl rfl 6 sizeMove rfl _ undMove.choose_spec rfl _ rfl ?_)
        | (refine bin_to rfl _ _ _ _ _ rfl (moveC 4 2 2 m 0 1).toArray (moveC 4 2 2 m 0 1).toArray rfl rfl guardMove (.bool false) (move_neq _ _ _ _ _ _) _ rfl ?_)
        | fail)
      first | exact ⟨rfl, rfl, rfl⟩ | rfl
    refine wpS_end ?_
    intro wz hT
    try dsimp only
    clear hS
    have hS : HS NoF w wz [.blk gd 122 (downC D (.slice none 0 0) false (.pointer (some ⟨g, 0, none⟩)) (.slice (some ⟨gw, 0, none⟩) m m) 0 0), .os 5 (.slice (some ⟨gw, 0, none⟩) m m) (ints .u8 (List.replicate m 0)), .blk g 148 [.int .i64 1, .slice (some ⟨gb, 0, none⟩) kb kb], .os 5 (.slice (some ⟨gb, 0, none⟩) kb kb) (ints .u8 (List.replicate kb 0)), .blk g15 72 (moveC 4 2 2 m 0 1), .blk g14 70 (R), .blk g11 32 D, .os 5 (.slice A5 bl c5) (ints .u8 bs), .os 5 (.slice A3 m c3) (ints .u8 xs)] := hT
    clear hT
    go_wp2_with fail
    have HBZ := hid (builtDescZ 9 (m : Nat) 10)
    have HZDL := hid (dscZ_length 9 (m : Nat) 10)
    have HZD1 := hid (descC_one 9 (m : Nat) 10 (List.replicate 32 0) (List.replicate 32 0) (List.replicate 32 0))
    have HZ01 : Hd ((dscZ 9 (m : Nat) 10)[1]? = some (.int .u32 (m : Int))) := hid rfl
    have HEND := hid fun (s : Nat) (h : (s : Int) ≠ 3) w => tend_calls R 4 2 s 9 m 10 (some ⟨gd, 0, none⟩) w HRL2.out HR0.out HR1.out HR3.out HR4.out HR5.out HR107.out (.inr h)
    have HEND3 : Hd (∀ s : Nat, s = 3 → ∀ w, w.cell? ⟨gd, 102, none⟩ = some (.slice (some ⟨gw, 0, none⟩) m m) → Rd w (some ⟨gw, 0, none⟩) .u8 (List.replicate m 0) → Calls Tryd.prog 32 #[.agg R.toArray, .int .i64 s] w fun e w' => ∃ v, e = .returned (.agg (endC 4 2 s (dscZ 9 (m : Nat) 10) v).toArray) ∧ OwnS w' 5 v (ints .u8 (List.replicate m 0)) ∧ Below w.heap.size w w') := hid fun s h w ct hr => by
      subst h
      exact tend_done R 4 2 9 m 10 (List.replicate m 0) gd m m (some ⟨gw, 0, none⟩) w HRL2.out HR0.out HR1.out HR3.out HR4.out HR5.out HR107.out ct (by simp) (fun h => by cases h) hr (by simp; omega)
    change Hd (∀ v ∈ dscZ 9 (m : Nat) 10, v.oneCell' = true) at HZD1
    replace HEQ : Hd (∀ w, (binOp .neq 32 (.agg (dscZ 9 (m : Nat) 10).toArray) (.agg (dscZ 9 (m : Nat) 10).toArray)).run Tryd.prog w = .ok (.bool false) w) := hid (HEQ.out m)
    generalize dscZ 9 (m : Nat) 10 = DZ at *
    go_loopg [17] 4 (fun kq v17 wr => ∃ s : Nat, 3 ≤ s ∧ s ≤ 6 ∧ v17 = .int .i64 s ∧ Hd (kq + s = 7) ∧ HS NoF w wr [.blk gd 122 (downC D (.slice none 0 0) false (.pointer (some ⟨g, 0, none⟩)) (.slice (some ⟨gw, 0, none⟩) m m) 0 0), .os 5 (.slice (some ⟨gw, 0, none⟩) m m) (ints .u8 (List.replicate m 0)), .blk g 148 [.int .i64 1, .slice (some ⟨gb, 0, none⟩) kb kb], .os 5 (.slice (some ⟨gb, 0, none⟩) kb kb) (ints .u8 (List.replicate kb 0)), .blk g15 72 (moveC 4 2 2 m 0 1), .blk g14 70 (R), .blk g11 32 D, .os 5 (.slice A5 bl c5) (ints .u8 bs), .os 5 (.slice A3 m c3) (ints .u8 xs)])
    case atStart => exact ⟨3, by omega, by omega, rfl, hid rfl, hS⟩
    case round =>
      clear hS
      obtain ⟨s, hs3, hs6, rfl, hq, hS⟩ := hrel
      by_cases hlt : s ≤ 5
      · have hlt2 : (s : Int) ≤ 5 := by omega
        by_cases h3 : s = 3
        · clear hlt
          have hst : ((s : Int) == 3) = true := by simp [h3]
          have H3 := hid h3
          clear h3
          go_wp2_with (first
              | (refine hs_loadW hS 5 rfl rfl 70 _ rfl rfl 108 sizeRow HRL2.out _ undRow.choose_spec rfl _ rfl ?_)
              | (go_at_call 32; refine (HEND3.out s H3.out _ ((hS.cell 0 rfl 102).trans HDG.out.2) ((hS.os 1 rfl).rd rfl)).mono ?_; rintro e we ⟨v6, rfl, ho, hB⟩; obtain ⟨A6, c6, h6, hc6, _⟩ := ho.parts; rw [ints_length, List.length_replicate] at h6; subst h6; replace hS := hS.below hB; clear ho hc6 hB)
              | (refine alloc_blk rfl 70 rfl _ rfl rowZ zeroRow ?_; intro g18 wa hga hba hBa hsa; replace hS := hS.pushBlk hBa hba hga; clear hga hba hBa hsa)
              | (refine hs_storeW hS 0 rfl rfl 70 _ _ rfl rfl (endC 4 2 s DZ (.slice A6 m c6)) rfl (endC_one _ _ _ _ _ HZD1.out rfl) 108 sizeRow (endC_length _ _ _ _ _ HZDL.out) rowZ_length _ rfl ?_; clear hS; intro wb hS; replace hS : HS NoF w wb (.blk g18 70 (endC 4 2 s DZ (.slice A6 m c6)) :: [.blk gd 122 (downC D (.slice none 0 0) false (.pointer (some ⟨g, 0, none⟩)) (.slice (some ⟨gw, 0, none⟩) m m) 0 0), .os 5 (.slice (some ⟨gw, 0, none⟩) m m) (ints .u8 (List.replicate m 0)), .blk g 148 [.int .i64 1, .slice (some ⟨gb, 0, none⟩) kb kb], .os 5 (.slice (some ⟨gb, 0, none⟩) kb kb) (ints .u8 (List.replicate kb 0)), .blk g15 72 (moveC 4 2 2 m 0 1), .blk g14 70 (R), .blk g11 32 D, .os 5 (.slice A5 bl c5) (ints .u8 bs), .os 5 (.slice A3 m c3) (ints .u8 xs)]) := hS)
              | fail)
          have HE := rowC_get 4 2 s DZ (.slice A6 m c6) (.pointer none) 0 0 0 0 HZDL.out _ rfl
          have HEN := hid (rowC_D 4 2 s DZ (.slice A6 m c6) (.pointer none) [.int .i64 0, .int .i64 0, .int .i64 0, .int .i64 0] HZDL.out)
          obtain ⟨E, hE⟩ : ∃ E, endC 4 2 s DZ (.slice A6 m c6) = E := ⟨_, rfl⟩
          change _ at HE
          unfold endC at hE
          rw [hE] at HE HEN
          have HEL := hid HE.1
          have HE0 := hid HE.2.1
          have HE1 := hid HE.2.2.1
          have HE2 := hid HE.2.2.2.1
          have HE4 := hid (HE.2.2.2.2.2.1.trans HZ01.out)
          have HE102 := hid HE.2.2.2.2.2.2.2.1
          have HE107 := hid HE.2.2.2.2.2.2.2.2.2
          clear HE
          replace hS : HS NoF w wb (.blk g18 70 E :: [.blk gd 122 (downC D (.slice none 0 0) false (.pointer (some ⟨g, 0, none⟩)) (.slice (some ⟨gw, 0, none⟩) m m) 0 0), .os 5 (.slice (some ⟨gw, 0, none⟩) m m) (ints .u8 (List.replicate m 0)), .blk g 148 [.int .i64 1, .slice (some ⟨gb, 0, none⟩) kb kb], .os 5 (.slice (some ⟨gb, 0, none⟩) kb kb) (ints .u8 (List.replicate kb 0)), .blk g15 72 (moveC 4 2 2 m 0 1), .blk g14 70 (R), .blk g11 32 D, .os 5 (.slice A5 bl c5) (ints .u8 bs), .os 5 (.slice A3 m c3) (ints .u8 xs)]) := hE ▸ hS
          clear hE
          go_wp2_with fail
          try go_wp2_with fail
          refine wp_region_S (F := NoF) (w0 := w) (L0 := (.blk g18 70 E :: [.blk gd 122 (downC D (.slice none 0 0) false (.pointer (some ⟨g, 0, none⟩)) (.slice (some ⟨gw, 0, none⟩) m m) 0 0), .os 5 (.slice (some ⟨gw, 0, none⟩) m m) (ints .u8 (List.replicate m 0)), .blk g 148 [.int .i64 1, .slice (some ⟨gb, 0, none⟩) kb kb], .os 5 (.slice (some ⟨gb, 0, none⟩) kb kb) (ints .u8 (List.replicate kb 0)), .blk g15 72 (moveC 4 2 2 m 0 1), .blk g14 70 (R), .blk g11 32 D, .os 5 (.slice A5 bl c5) (ints .u8 bs), .os 5 (.slice A3 m c3) (ints .u8 xs)])) [1] []
            (fun iK u E => match iK with
              | 1 => u = .agg (moveC 4 2 s m 0 0).toArray ∧ E = []
              | _ => False)
            ([]) (by kernel_rfl) (by kernel_rfl) hS ?_
          show wpS _ _ _ _ _ _ _ _ _ _ [0, 1, 2, 3, 4, 5, 6, 7, 8, 9, 10, 11, 12, 13, 14, 15, 16, 17, 18, 19, 20, 21, 22, 23, 24, 25, 26, 27, 28, 29, 30, 31] _
          apply wpS_read (i := 0) rfl rfl ⟨_, hS⟩ rfl -- Op.load 70 t18
          · intro w' hT'
            simp only [List.getElem_toArray, List.getElem_cons_zero, List.getElem_cons_succ]
            have ck : w'.cell? ⟨g15, 1, none⟩ = some (.int .i64 2) := hT'.cell 5 rfl 1
            have cb : w'.cell? ⟨g18, 102, none⟩ = some (.slice A6 m c6) := (hT'.cell 0 rfl 102).trans HE102.out
            go_wp2_with (first
              | (refine hs_loadW hT' 0 rfl rfl 70 _ rfl rfl 108 sizeRow HEL.out _ undRow.choose_spec rfl _ rfl ?_)
              | (refine hs_loadN hT' 0 rfl rfl 32 _ rfl 3 rfl DZ HEN.out 99 sizeDesc HZDL.out _ undDesc.choose_spec rfl _ rfl ?_)
              | (refine build_to rfl 32 _ rfl DZ.toArray (by rw [Array.toList_map]; exact HBZ.out) ?_)
              | (refine bin_to rfl _ _ _ _ _ rfl (moveC 4 2 s m 0 0).toArray (moveC 4 2 s m 0 0).toArray rfl rfl guardMove (.bool false) (move_neq _ _ _ _ _ _) _ rfl ?_)
              | (refine bin_to rfl _ _ _ _ _ rfl DZ.toArray DZ.toArray rfl rfl guardDesc (.bool false) HEQ.out _ rfl ?_)
              | fail)
            first | exact ⟨rfl, rfl, rfl⟩ | rfl
          refine wpS_soft (i := 1) rfl rfl rfl (Nat.le_of_ble_eq_true rfl) ?_ ?_ -- Op.call { value (Operand.func 31), args := #[t76], argTypes := #[70]
          · intro w' hT
            simp only [List.getElem_toArray, List.getElem_cons_zero, List.getElem_cons_succ]
            go_wp2_with (first
              | (go_at_call 31; refine (told_end E 4 2 s m _ HEL.out HE0.out HE1.out HE2.out HE4.out (by omega) HE107.out (by omega)).mono ?_; rintro e w6 ⟨rfl, hB6⟩)
              | fail)
            exact SoftP.mk' (.agg (moveC 4 2 s m 0 0).toArray) ([]) rfl (⟨rfl, rfl⟩) (hT.below hB6) (hB6) (fun _ h => by cases h)
          intro u1 E1 hK1
          obtain ⟨rfl, rfl⟩ := hK1
          simp only [Act.put, List.setIfInBounds_toArray, List.set_cons_zero, List.set_cons_succ]
          apply wpS_read (i := 2) rfl rfl ⟨_, hS⟩ rfl -- Op.fieldAddr 72 t15 1
          · intro w' hT'
            simp only [List.getElem_toArray, List.getElem_cons_zero, List.getElem_cons_succ]
            go_wp2_with fail
            first | exact ⟨rfl, rfl, rfl⟩ | rfl
          apply wpS_read (i := 3) rfl rfl ⟨_, hS⟩ rfl -- Op.load 3 t78
          · intro w' hT'
            simp only [List.getElem_toArray, List.getElem_cons_zero, List.getElem_cons_succ]
            have ck : w'.cell? ⟨g15, 1, none⟩ = some (.int .i64 2) := hT'.cell 5 rfl 1
            have cb : w'.cell? ⟨g18, 102, none⟩ = some (.slice A6 m c6) := (hT'.cell 0 rfl 102).trans HE102.out
            go_wp2_with (first
              | (refine hs_loadW hT' 0 rfl rfl 70 _ rfl rfl 108 sizeRow HEL.out _ undRow.choose_spec rfl _ rfl ?_)
              | (refine hs_loadN hT' 0 rfl rfl 32 _ rfl 3 rfl DZ HEN.out 99 sizeDesc HZDL.out _ undDesc.choose_spec rfl _ rfl ?_)
              | (refine build_to rfl 32 _ rfl DZ.toArray (by rw [Array.toList_map]; exact HBZ.out) ?_)
              | (refine bin_to rfl _ _ _ _ _ rfl (moveC 4 2 s m 0 0).toArray (moveC 4 2 s m 0 0).toArray rfl rfl guardMove (.bool false) (move_neq _ _ _ _ _ _) _ rfl ?_)
              | (refine bin_to rfl _ _ _ _ _ rfl DZ.toArray DZ.toArray rfl rfl guardDesc (.bool false) HEQ.out _ rfl ?_)
              | fail)
            first | exact ⟨rfl, rfl, rfl⟩ | rfl
          apply wpS_read (i := 4) rfl rfl ⟨_, hS⟩ rfl -- Op.move t17
          · intro w' hT'
            simp only [List.getElem_toArray, List.getElem_cons_zero, List.getElem_cons_succ]
            go_wp2_with fail
            first | exact ⟨rfl, rfl, rfl⟩ | rfl
          apply wpS_read (i := 5) rfl rfl ⟨_, hS⟩ rfl -- Op.move t1
          · intro w' hT'
            simp only [List.getElem_toArray, List.getElem_cons_zero, List.getElem_cons_succ]
            go_wp2_with fail
            first | exact ⟨rfl, rfl, rfl⟩ | rfl
          apply wpS_read (i := 6) rfl rfl ⟨_, hS⟩ rfl -- Op.build 72 #[(0, const (4:i64)), (1, t79), (2, t80), (3, t81)]
          · intro w' hT'
            simp only [List.getElem_toArray, List.getElem_cons_zero, List.getElem_cons_succ]
            go_wp2_with (first
              | (refine hs_loadW hT' 0 rfl rfl 70 _ rfl rfl 108 sizeRow HEL.out _ undRow.choose_spec rfl _ rfl ?_)
              | (refine hs_loadN hT' 0 rfl rfl 32 _ rfl 3 rfl DZ HEN.out 99 sizeDesc HZDL.out _ undDesc.choose_spec rfl _ rfl ?_)
              | (refine build_to rfl 32 _ rfl DZ.toArray (by rw [Array.toList_map]; exact HBZ.out) ?_)
              | (refine bin_to rfl _ _ _ _ _ rfl (moveC 4 2 s m 0 0).toArray (moveC 4 2 s m 0 0).toArray rfl rfl guardMove (.bool false) (move_neq _ _ _ _ _ _) _ rfl ?_)
              | (refine bin_to rfl _ _ _ _ _ rfl DZ.toArray DZ.toArray rfl rfl guardDesc (.bool false) HEQ.out _ rfl ?_)
              | fail)
            first | exact ⟨rfl, rfl, rfl⟩ | rfl
          apply wpS_read (i := 7) rfl rfl ⟨_, hS⟩ rfl -- Op.binOp BinOp.neq 72 t77 t82 72
          · intro w' hT'
            simp only [List.getElem_toArray, List.getElem_cons_zero, List.getElem_cons_succ]
            go_wp2_with (first
              | (refine hs_loadW hT' 0 rfl rfl 70 _ rfl rfl 108 sizeRow HEL.out _ undRow.choose_spec rfl _ rfl ?_)
              | (refine hs_loadN hT' 0 rfl rfl 32 _ rfl 3 rfl DZ HEN.out 99 sizeDesc HZDL.out _ undDesc.choose_spec rfl _ rfl ?_)
              | (refine build_to rfl 32 _ rfl DZ.toArray (by rw [Array.toList_map]; exact HBZ.out) ?_)
              | (refine bin_to rfl _ _ _ _ _ rfl (moveC 4 2 s m 0 0).toArray (moveC 4 2 s m 0 0).toArray rfl rfl guardMove (.bool false) (move_neq _ _ _ _ _ _) _ rfl ?_)
              | (refine bin_to rfl _ _ _ _ _ rfl DZ.toArray DZ.toArray rfl rfl guardDesc (.bool false) HEQ.out _ rfl ?_)
              | fail)
            first | exact ⟨rfl, rfl, rfl⟩ | rfl
          apply wpS_read (i := 8) rfl rfl ⟨_, hS⟩ rfl -- Op.move t83
          · intro w' hT'
            simp only [List.getElem_toArray, List.getElem_cons_zero, List.getElem_cons_succ]
            go_wp2_with fail
            first | exact ⟨rfl, rfl, rfl⟩ | rfl
          apply wpS_read (i := 9) rfl rfl ⟨_, hS⟩ rfl -- Op.fieldAddr 70 t18 3
          · intro w' hT'
            simp only [List.getElem_toArray, List.getElem_cons_zero, List.getElem_cons_succ]
            go_wp2_with fail
            first | exact ⟨rfl, rfl, rfl⟩ | rfl
          apply wpS_read (i := 10) rfl rfl ⟨_, hS⟩ rfl -- Op.load 32 t85
          · intro w' hT'
            simp only [List.getElem_toArray, List.getElem_cons_zero, List.getElem_cons_succ]
            have ck : w'.cell? ⟨g15, 1, none⟩ = some (.int .i64 2) := hT'.cell 5 rfl 1
            have cb : w'.cell? ⟨g18, 102, none⟩ = some (.slice A6 m c6) := (hT'.cell 0 rfl 102).trans HE102.out
            go_wp2_with (first
              | (refine hs_loadW hT' 0 rfl rfl 70 _ rfl rfl 108 sizeRow HEL.out _ undRow.choose_spec rfl _ rfl ?_)
              | (refine hs_loadN hT' 0 rfl rfl 32 _ rfl 3 rfl DZ HEN.out 99 sizeDesc HZDL.out _ undDesc.choose_spec rfl _ rfl ?_)
              | (refine build_to rfl 32 _ rfl DZ.toArray (by rw [Array.toList_map]; exact HBZ.out) ?_)
              | (refine bin_to rfl _ _ _ _ _ rfl (moveC 4 2 s m 0 0).toArray (moveC 4 2 s m 0 0).toArray rfl rfl guardMove (.bool false) (move_neq _ _ _ _ _ _) _ rfl ?_)
              | (refine bin_to rfl _ _ _ _ _ rfl DZ.toArray DZ.toArray rfl rfl guardDesc (.bool false) HEQ.out _ rfl ?_)
              | fail)
            first | exact ⟨rfl, rfl, rfl⟩ | rfl
          apply wpS_read (i := 11) rfl rfl ⟨_, hS⟩ rfl -- Op.move t1
          · intro w' hT'
            simp only [List.getElem_toArray, List.getElem_cons_zero, List.getElem_cons_succ]
            go_wp2_with fail
            first | exact ⟨rfl, rfl, rfl⟩ | rfl
          apply wpS_read (i := 12) rfl rfl ⟨_, hS⟩ rfl -- Op.convert 3 29 t87
          · intro w' hT'
            simp only [List.getElem_toArray, List.getElem_cons_zero, List.getElem_cons_succ]
            go_wp2_with (first
              | (refine hs_loadW hT' 0 rfl rfl 70 _ rfl rfl 108 sizeRow HEL.out _ undRow.choose_spec rfl _ rfl ?_)
              | (refine hs_loadN hT' 0 rfl rfl 32 _ rfl 3 rfl DZ HEN.out 99 sizeDesc HZDL.out _ undDesc.choose_spec rfl _ rfl ?_)
              | (refine build_to rfl 32 _ rfl DZ.toArray (by rw [Array.toList_map]; exact HBZ.out) ?_)
              | (refine bin_to rfl _ _ _ _ _ rfl (moveC 4 2 s m 0 0).toArray (moveC 4 2 s m 0 0).toArray rfl rfl guardMove (.bool false) (move_neq _ _ _ _ _ _) _ rfl ?_)
              | (refine bin_to rfl _ _ _ _ _ rfl DZ.toArray DZ.toArray rfl rfl guardDesc (.bool false) HEQ.out _ rfl ?_)
              | fail)
            first | exact ⟨rfl, rfl, rfl⟩ | rfl
          apply wpS_read (i := 13) rfl rfl ⟨_, hS⟩ rfl -- Op.build 32 #[(0, const (9:u32)), (1, t88), (2, const (10:u32))]
          · intro w' hT'
            simp only [List.getElem_toArray, List.getElem_cons_zero, List.getElem_cons_succ]
            go_wp2_with (first
              | (refine hs_loadW hT' 0 rfl rfl 70 _ rfl rfl 108 sizeRow HEL.out _ undRow.choose_spec rfl _ rfl ?_)
              | (refine hs_loadN hT' 0 rfl rfl 32 _ rfl 3 rfl DZ HEN.out 99 sizeDesc HZDL.out _ undDesc.choose_spec rfl _ rfl ?_)
              | (refine build_to rfl 32 _ rfl DZ.toArray (by rw [Array.toList_map]; exact HBZ.out) ?_)
              | (refine bin_to rfl _ _ _ _ _ rfl (moveC 4 2 s m 0 0).toArray (moveC 4 2 s m 0 0).toArray rfl rfl guardMove (.bool false) (move_neq _ _ _ _ _ _) _ rfl ?_)
              | (refine bin_to rfl _ _ _ _ _ rfl DZ.toArray DZ.toArray rfl rfl guardDesc (.bool false) HEQ.out _ rfl ?_)
              | fail)
            first | exact ⟨rfl, rfl, rfl⟩ | rfl
          apply wpS_read (i := 14) rfl rfl ⟨_, hS⟩ rfl -- Op.binOp BinOp.neq 32 t86 t89 32
          · intro w' hT'
            simp only [List.getElem_toArray, List.getElem_cons_zero, List.getElem_cons_succ]
            go_wp2_with (first
              | (refine hs_loadW hT' 0 rfl rfl 70 _ rfl rfl 108 sizeRow HEL.out _ undRow.choose_spec rfl _ rfl ?_)
              | (refine hs_loadN hT' 0 rfl rfl 32 _ rfl 3 rfl DZ HEN.out 99 sizeDesc HZDL.out _ undDesc.choose_spec rfl _ rfl ?_)
              | (refine build_to rfl 32 _ rfl DZ.toArray (by rw [Array.toList_map]; exact HBZ.out) ?_)
              | (refine bin_to rfl _ _ _ _ _ rfl (moveC 4 2 s m 0 0).toArray (moveC 4 2 s m 0 0).toArray rfl rfl guardMove (.bool false) (move_neq _ _ _ _ _ _) _ rfl ?_)
              | (refine bin_to rfl _ _ _ _ _ rfl DZ.toArray DZ.toArray rfl rfl guardDesc (.bool false) HEQ.out _ rfl ?_)
              | fail)
            first | exact ⟨rfl, rfl, rfl⟩ | rfl
          apply wpS_read (i := 15) rfl rfl ⟨_, hS⟩ rfl -- Op.pick t84 (const (Value.bool true)) t90
          · intro w' hT'
            simp only [List.getElem_toArray, List.getElem_cons_zero, List.getElem_cons_succ]
            go_wp2_with fail
            first | exact ⟨rfl, rfl, rfl⟩ | rfl
          apply wpS_read (i := 16) rfl rfl ⟨_, hS⟩ rfl -- Op.move t91
          · intro w' hT'
            simp only [List.getElem_toArray, List.getElem_cons_zero, List.getElem_cons_succ]
            go_wp2_with fail
            first | exact ⟨rfl, rfl, rfl⟩ | rfl
          apply wpS_read (i := 17) rfl rfl ⟨_, hS⟩ rfl -- Op.fieldAddr 70 t18 4
          · intro w' hT'
            simp only [List.getElem_toArray, List.getElem_cons_zero, List.getElem_cons_succ]
            go_wp2_with fail
            first | exact ⟨rfl, rfl, rfl⟩ | rfl
          apply wpS_read (i := 18) rfl rfl ⟨_, hS⟩ rfl -- Op.load 24 t93
          · intro w' hT'
            simp only [List.getElem_toArray, List.getElem_cons_zero, List.getElem_cons_succ]
            have ck : w'.cell? ⟨g15, 1, none⟩ = some (.int .i64 2) := hT'.cell 5 rfl 1
            have cb : w'.cell? ⟨g18, 102, none⟩ = some (.slice A6 m c6) := (hT'.cell 0 rfl 102).trans HE102.out
            go_wp2_with (first
              | (refine hs_loadW hT' 0 rfl rfl 70 _ rfl rfl 108 sizeRow HEL.out _ undRow.choose_spec rfl _ rfl ?_)
              | (refine hs_loadN hT' 0 rfl rfl 32 _ rfl 3 rfl DZ HEN.out 99 sizeDesc HZDL.out _ undDesc.choose_spec rfl _ rfl ?_)
              | (refine build_to rfl 32 _ rfl DZ.toArray (by rw [Array.toList_map]; exact HBZ.out) ?_)
              | (refine bin_to rfl _ _ _ _ _ rfl (moveC 4 2 s m 0 0).toArray (moveC 4 2 s m 0 0).toArray rfl rfl guardMove (.bool false) (move_neq _ _ _ _ _ _) _ rfl ?_)
              | (refine bin_to rfl _ _ _ _ _ rfl DZ.toArray DZ.toArray rfl rfl guardDesc (.bool false) HEQ.out _ rfl ?_)
              | fail)
            first | exact ⟨rfl, rfl, rfl⟩ | rfl
          apply wpS_read (i := 19) rfl rfl ⟨_, hS⟩ rfl -- Op.call { builtin len, args := #[t94], argTypes := #[24] }
          · intro w' hT'
            simp only [List.getElem_toArray, List.getElem_cons_zero, List.getElem_cons_succ]
            go_wp2_with fail
            first | exact ⟨rfl, rfl, rfl⟩ | rfl
          apply wpS_read (i := 20) rfl rfl ⟨_, hS⟩ rfl -- Op.binOp BinOp.gtr 3 t95 (const (0:i64)) 3
          · intro w' hT'
            simp only [List.getElem_toArray, List.getElem_cons_zero, List.getElem_cons_succ]
            go_wp2_with (first
              | (refine hs_loadW hT' 0 rfl rfl 70 _ rfl rfl 108 sizeRow HEL.out _ undRow.choose_spec rfl _ rfl ?_)
              | (refine hs_loadN hT' 0 rfl rfl 32 _ rfl 3 rfl DZ HEN.out 99 sizeDesc HZDL.out _ undDesc.choose_spec rfl _ rfl ?_)
              | (refine build_to rfl 32 _ rfl DZ.toArray (by rw [Array.toList_map]; exact HBZ.out) ?_)
              | (refine bin_to rfl _ _ _ _ _ rfl (moveC 4 2 s m 0 0).toArray (moveC 4 2 s m 0 0).toArray rfl rfl guardMove (.bool false) (move_neq _ _ _ _ _ _) _ rfl ?_)
              | (refine bin_to rfl _ _ _ _ _ rfl DZ.toArray DZ.toArray rfl rfl guardDesc (.bool false) HEQ.out _ rfl ?_)
              | fail)
            first | exact ⟨rfl, rfl, rfl⟩ | rfl
          apply wpS_read (i := 21) rfl rfl ⟨_, hS⟩ rfl -- Op.move t3
          · intro w' hT'
            simp only [List.getElem_toArray, List.getElem_cons_zero, List.getElem_cons_succ]
            go_wp2_with fail
            first | exact ⟨rfl, rfl, rfl⟩ | rfl
          apply wpS_read (i := 22) rfl rfl ⟨_, hS⟩ rfl -- Op.move t97
          · intro w' hT'
            simp only [List.getElem_toArray, List.getElem_cons_zero, List.getElem_cons_succ]
            go_wp2_with fail
            first | exact ⟨rfl, rfl, rfl⟩ | rfl
          apply wpS_read (i := 23) rfl rfl ⟨_, hS⟩ rfl -- Op.move t17
          · intro w' hT'
            simp only [List.getElem_toArray, List.getElem_cons_zero, List.getElem_cons_succ]
            go_wp2_with fail
            first | exact ⟨rfl, rfl, rfl⟩ | rfl
          apply wpS_read (i := 24) rfl rfl ⟨_, hS⟩ rfl -- Op.binOp BinOp.eql 3 t99 (const (3:i64)) 3
          · intro w' hT'
            simp only [List.getElem_toArray, List.getElem_cons_zero, List.getElem_cons_succ]
            go_wp2_with (first
              | (refine hs_loadW hT' 0 rfl rfl 70 _ rfl rfl 108 sizeRow HEL.out _ undRow.choose_spec rfl _ rfl ?_)
              | (refine hs_loadN hT' 0 rfl rfl 32 _ rfl 3 rfl DZ HEN.out 99 sizeDesc HZDL.out _ undDesc.choose_spec rfl _ rfl ?_)
              | (refine build_to rfl 32 _ rfl DZ.toArray (by rw [Array.toList_map]; exact HBZ.out) ?_)
              | (refine bin_to rfl _ _ _ _ _ rfl (moveC 4 2 s m 0 0).toArray (moveC 4 2 s m 0 0).toArray rfl rfl guardMove (.bool false) (move_neq _ _ _ _ _ _) _ rfl ?_)
              | (refine bin_to rfl _ _ _ _ _ rfl DZ.toArray DZ.toArray rfl rfl guardDesc (.bool false) HEQ.out _ rfl ?_)
              | fail)
            first | exact ⟨rfl, rfl, rfl⟩ | rfl
          apply wpS_read (i := 25) rfl rfl ⟨_, hS⟩ rfl -- Op.pick t98 t100 (const (Value.bool false))
          · intro w' hT'
            simp only [List.getElem_toArray, List.getElem_cons_zero, List.getElem_cons_succ]
            go_wp2_with fail
            first | exact ⟨rfl, rfl, rfl⟩ | rfl
          apply wpS_read (i := 26) rfl rfl ⟨_, hS⟩ rfl -- Op.move t101
          · intro w' hT'
            simp only [List.getElem_toArray, List.getElem_cons_zero, List.getElem_cons_succ]
            go_wp2_with fail
            first | exact ⟨rfl, rfl, rfl⟩ | rfl
          apply wpS_read (i := 27) rfl rfl ⟨_, hS⟩ rfl -- Op.move t1
          · intro w' hT'
            simp only [List.getElem_toArray, List.getElem_cons_zero, List.getElem_cons_succ]
            go_wp2_with fail
            first | exact ⟨rfl, rfl, rfl⟩ | rfl
          apply wpS_read (i := 28) rfl rfl ⟨_, hS⟩ rfl -- Op.binOp BinOp.gtr 3 t103 (const (0:i64)) 3
          · intro w' hT'
            simp only [List.getElem_toArray, List.getElem_cons_zero, List.getElem_cons_succ]
            go_wp2_with (first
              | (refine hs_loadW hT' 0 rfl rfl 70 _ rfl rfl 108 sizeRow HEL.out _ undRow.choose_spec rfl _ rfl ?_)
              | (refine hs_loadN hT' 0 rfl rfl 32 _ rfl 3 rfl DZ HEN.out 99 sizeDesc HZDL.out _ undDesc.choose_spec rfl _ rfl ?_)
              | (refine build_to rfl 32 _ rfl DZ.toArray (by rw [Array.toList_map]; exact HBZ.out) ?_)
              | (refine bin_to rfl _ _ _ _ _ rfl (moveC 4 2 s m 0 0).toArray (moveC 4 2 s m 0 0).toArray rfl rfl guardMove (.bool false) (move_neq _ _ _ _ _ _) _ rfl ?_)
              | (refine bin_to rfl _ _ _ _ _ rfl DZ.toArray DZ.toArray rfl rfl guardDesc (.bool false) HEQ.out _ rfl ?_)
              | fail)
            first | exact ⟨rfl, rfl, rfl⟩ | rfl
          apply wpS_read (i := 29) rfl rfl ⟨_, hS⟩ rfl -- Op.pick t102 t104 (const (Value.bool false))
          · intro w' hT'
            simp only [List.getElem_toArray, List.getElem_cons_zero, List.getElem_cons_succ]
            go_wp2_with fail
            first | exact ⟨rfl, rfl, rfl⟩ | rfl
          apply wpS_read (i := 30) rfl rfl ⟨_, hS⟩ rfl -- Op.binOp BinOp.neq 4 t96 t105 4
          · intro w' hT'
            simp only [List.getElem_toArray, List.getElem_cons_zero, List.getElem_cons_succ]
            go_wp2_with (first
              | (refine hs_loadW hT' 0 rfl rfl 70 _ rfl rfl 108 sizeRow HEL.out _ undRow.choose_spec rfl _ rfl ?_)
              | (refine hs_loadN hT' 0 rfl rfl 32 _ rfl 3 rfl DZ HEN.out 99 sizeDesc HZDL.out _ undDesc.choose_spec rfl _ rfl ?_)
              | (refine build_to rfl 32 _ rfl DZ.toArray (by rw [Array.toList_map]; exact HBZ.out) ?_)
              | (refine bin_to rfl _ _ _ _ _ rfl (moveC 4 2 s m 0 0).toArray (moveC 4 2 s m 0 0).toArray rfl rfl guardMove (.bool false) (move_neq _ _ _ _ _ _) _ rfl ?_)
              | (refine bin_to rfl _ _ _ _ _ rfl DZ.toArray DZ.toArray rfl rfl guardDesc (.bool false) HEQ.out _ rfl ?_)
              | fail)
            first | exact ⟨rfl, rfl, rfl⟩ | rfl
          apply wpS_read (i := 31) rfl rfl ⟨_, hS⟩ rfl -- Op.pick t92 (const (Value.bool true)) t106
          · intro w' hT'
            simp only [List.getElem_toArray, List.getElem_cons_zero, List.getElem_cons_succ]
            go_wp2_with fail
            first | exact ⟨rfl, rfl, rfl⟩ | rfl
          refine wpS_end ?_
          intro wz hT
          try dsimp only
          clear hS
          have hS : HS NoF w wz (.blk g18 70 E :: [.blk gd 122 (downC D (.slice none 0 0) false (.pointer (some ⟨g, 0, none⟩)) (.slice (some ⟨gw, 0, none⟩) m m) 0 0), .os 5 (.slice (some ⟨gw, 0, none⟩) m m) (ints .u8 (List.replicate m 0)), .blk g 148 [.int .i64 1, .slice (some ⟨gb, 0, none⟩) kb kb], .os 5 (.slice (some ⟨gb, 0, none⟩) kb kb) (ints .u8 (List.replicate kb 0)), .blk g15 72 (moveC 4 2 2 m 0 1), .blk g14 70 (R), .blk g11 32 D, .os 5 (.slice A5 bl c5) (ints .u8 bs), .os 5 (.slice A3 m c3) (ints .u8 xs)]) := hT
          clear hT
          go_wp2_with fail
          go_roundg (gk - 1)
          case measure => have := hq.out; omega
          case rel => exact ⟨s + 1, by omega, by omega, by go_num, hid (by have := hq.out; omega), hS.erase 0⟩
        
        · clear hlt
          have hne : (s : Int) ≠ 3 := by omega
          go_wp2_with (first
              | (refine hs_loadW hS 5 rfl rfl 70 _ rfl rfl 108 sizeRow HRL2.out _ undRow.choose_spec rfl _ rfl ?_)
              | (go_at_call 32; refine (HEND.out s hne _).mono ?_; rintro e we ⟨rfl, hB⟩; replace hS := hS.below hB; clear hB)
              | (refine alloc_blk rfl 70 rfl _ rfl rowZ zeroRow ?_; intro g18 wa hga hba hBa hsa; replace hS := hS.pushBlk hBa hba hga; clear hga hba hBa hsa)
              | (refine hs_storeW hS 0 rfl rfl 70 _ _ rfl rfl (endC 4 2 s DZ (.slice none 0 0)) rfl (endC_one _ _ _ _ _ HZD1.out rfl) 108 sizeRow (endC_length _ _ _ _ _ HZDL.out) rowZ_length _ rfl ?_; clear hS; intro wb hS; replace hS : HS NoF w wb (.blk g18 70 (endC 4 2 s DZ (.slice none 0 0)) :: [.blk gd 122 (downC D (.slice none 0 0) false (.pointer (some ⟨g, 0, none⟩)) (.slice (some ⟨gw, 0, none⟩) m m) 0 0), .os 5 (.slice (some ⟨gw, 0, none⟩) m m) (ints .u8 (List.replicate m 0)), .blk g 148 [.int .i64 1, .slice (some ⟨gb, 0, none⟩) kb kb], .os 5 (.slice (some ⟨gb, 0, none⟩) kb kb) (ints .u8 (List.replicate kb 0)), .blk g15 72 (moveC 4 2 2 m 0 1), .blk g14 70 (R), .blk g11 32 D, .os 5 (.slice A5 bl c5) (ints .u8 bs), .os 5 (.slice A3 m c3) (ints .u8 xs)]) := hS)
              | fail)
          have HE := rowC_get 4 2 s DZ (.slice none 0 0) (.pointer none) 0 0 0 0 HZDL.out _ rfl
          have HEN := hid (rowC_D 4 2 s DZ (.slice none 0 0) (.pointer none) [.int .i64 0, .int .i64 0, .int .i64 0, .int .i64 0] HZDL.out)
          obtain ⟨E, hE⟩ : ∃ E, endC 4 2 s DZ (.slice none 0 0) = E := ⟨_, rfl⟩
          change _ at HE
          unfold endC at hE
          rw [hE] at HE HEN
          have HEL := hid HE.1
          have HE0 := hid HE.2.1
          have HE1 := hid HE.2.2.1
          have HE2 := hid HE.2.2.2.1
          have HE4 := hid (HE.2.2.2.2.2.1.trans HZ01.out)
          have HE102 := hid HE.2.2.2.2.2.2.2.1
          have HE107 := hid HE.2.2.2.2.2.2.2.2.2
          clear HE
          replace hS : HS NoF w wb (.blk g18 70 E :: [.blk gd 122 (downC D (.slice none 0 0) false (.pointer (some ⟨g, 0, none⟩)) (.slice (some ⟨gw, 0, none⟩) m m) 0 0), .os 5 (.slice (some ⟨gw, 0, none⟩) m m) (ints .u8 (List.replicate m 0)), .blk g 148 [.int .i64 1, .slice (some ⟨gb, 0, none⟩) kb kb], .os 5 (.slice (some ⟨gb, 0, none⟩) kb kb) (ints .u8 (List.replicate kb 0)), .blk g15 72 (moveC 4 2 2 m 0 1), .blk g14 70 (R), .blk g11 32 D, .os 5 (.slice A5 bl c5) (ints .u8 bs), .os 5 (.slice A3 m c3) (ints .u8 xs)]) := hE ▸ hS
          clear hE
          go_wp2_with fail
          try go_wp2_with fail
          refine wp_region_S (F := NoF) (w0 := w) (L0 := (.blk g18 70 E :: [.blk gd 122 (downC D (.slice none 0 0) false (.pointer (some ⟨g, 0, none⟩)) (.slice (some ⟨gw, 0, none⟩) m m) 0 0), .os 5 (.slice (some ⟨gw, 0, none⟩) m m) (ints .u8 (List.replicate m 0)), .blk g 148 [.int .i64 1, .slice (some ⟨gb, 0, none⟩) kb kb], .os 5 (.slice (some ⟨gb, 0, none⟩) kb kb) (ints .u8 (List.replicate kb 0)), .blk g15 72 (moveC 4 2 2 m 0 1), .blk g14 70 (R), .blk g11 32 D, .os 5 (.slice A5 bl c5) (ints .u8 bs), .os 5 (.slice A3 m c3) (ints .u8 xs)])) [1] []
            (fun iK u E => match iK with
              | 1 => u = .agg (moveC 4 2 s m 0 0).toArray ∧ E = []
              | _ => False)
            ([]) (by kernel_rfl) (by kernel_rfl) hS ?_
          show wpS _ _ _ _ _ _ _ _ _ _ [0, 1, 2, 3, 4, 5, 6, 7, 8, 9, 10, 11, 12, 13, 14, 15, 16, 17, 18, 19, 20, 21, 22, 23, 24, 25, 26, 27, 28, 29, 30, 31] _
          apply wpS_read (i := 0) rfl rfl ⟨_, hS⟩ rfl -- Op.load 70 t18
          · intro w' hT'
            simp only [List.getElem_toArray, List.getElem_cons_zero, List.getElem_cons_succ]
            have ck : w'.cell? ⟨g15, 1, none⟩ = some (.int .i64 2) := hT'.cell 5 rfl 1
            have cb : w'.cell? ⟨g18, 102, none⟩ = some (.slice none 0 0) := (hT'.cell 0 rfl 102).trans HE102.out
            go_wp2_with (first
              | (refine hs_loadW hT' 0 rfl rfl 70 _ rfl rfl 108 sizeRow HEL.out _ undRow.choose_spec rfl _ rfl ?_)
              | (refine hs_loadN hT' 0 rfl rfl 32 _ rfl 3 rfl DZ HEN.out 99 sizeDesc HZDL.out _ undDesc.choose_spec rfl _ rfl ?_)
              | (refine build_to rfl 32 _ rfl DZ.toArray (by rw [Array.toList_map]; exact HBZ.out) ?_)
              | (refine bin_to rfl _ _ _ _ _ rfl (moveC 4 2 s m 0 0).toArray (moveC 4 2 s m 0 0).toArray rfl rfl guardMove (.bool false) (move_neq _ _ _ _ _ _) _ rfl ?_)
              | (refine bin_to rfl _ _ _ _ _ rfl DZ.toArray DZ.toArray rfl rfl guardDesc (.bool false) HEQ.out _ rfl ?_)
              | fail)
            first | exact ⟨rfl, rfl, rfl⟩ | rfl
          refine wpS_soft (i := 1) rfl rfl rfl (Nat.le_of_ble_eq_true rfl) ?_ ?_ -- Op.call { value (Operand.func 31), args := #[t76], argTypes := #[70]
          · intro w' hT
            simp only [List.getElem_toArray, List.getElem_cons_zero, List.getElem_cons_succ]
            go_wp2_with (first
              | (go_at_call 31; refine (told_end E 4 2 s m _ HEL.out HE0.out HE1.out HE2.out HE4.out (by omega) HE107.out (by omega)).mono ?_; rintro e w6 ⟨rfl, hB6⟩)
              | fail)
            exact SoftP.mk' (.agg (moveC 4 2 s m 0 0).toArray) ([]) rfl (⟨rfl, rfl⟩) (hT.below hB6) (hB6) (fun _ h => by cases h)
          intro u1 E1 hK1
          obtain ⟨rfl, rfl⟩ := hK1
          simp only [Act.put, List.setIfInBounds_toArray, List.set_cons_zero, List.set_cons_succ]
          apply wpS_read (i := 2) rfl rfl ⟨_, hS⟩ rfl -- Op.fieldAddr 72 t15 1
          · intro w' hT'
            simp only [List.getElem_toArray, List.getElem_cons_zero, List.getElem_cons_succ]
            go_wp2_with fail
            first | exact ⟨rfl, rfl, rfl⟩ | rfl
          apply wpS_read (i := 3) rfl rfl ⟨_, hS⟩ rfl -- Op.load 3 t78
          · intro w' hT'
            simp only [List.getElem_toArray, List.getElem_cons_zero, List.getElem_cons_succ]
            have ck : w'.cell? ⟨g15, 1, none⟩ = some (.int .i64 2) := hT'.cell 5 rfl 1
            have cb : w'.cell? ⟨g18, 102, none⟩ = some (.slice none 0 0) := (hT'.cell 0 rfl 102).trans HE102.out
            go_wp2_with (first
              | (refine hs_loadW hT' 0 rfl rfl 70 _ rfl rfl 108 sizeRow HEL.out _ undRow.choose_spec rfl _ rfl ?_)
              | (refine hs_loadN hT' 0 rfl rfl 32 _ rfl 3 rfl DZ HEN.out 99 sizeDesc HZDL.out _ undDesc.choose_spec rfl _ rfl ?_)
              | (refine build_to rfl 32 _ rfl DZ.toArray (by rw [Array.toList_map]; exact HBZ.out) ?_)
              | (refine bin_to rfl _ _ _ _ _ rfl (moveC 4 2 s m 0 0).toArray (moveC 4 2 s m 0 0).toArray rfl rfl guardMove (.bool false) (move_neq _ _ _ _ _ _) _ rfl ?_)
              | (refine bin_to rfl _ _ _ _ _ rfl DZ.toArray DZ.toArray rfl rfl guardDesc (.bool false) HEQ.out _ rfl ?_)
              | fail)
            first | exact ⟨rfl, rfl, rfl⟩ | rfl
          apply wpS_read (i := 4) rfl rfl ⟨_, hS⟩ rfl -- Op.move t17
          · intro w' hT'
            simp only [List.getElem_toArray, List.getElem_cons_zero, List.getElem_cons_succ]
            go_wp2_with fail
            first | exact ⟨rfl, rfl, rfl⟩ | rfl
          apply wpS_read (i := 5) rfl rfl ⟨_, hS⟩ rfl -- Op.move t1
          · intro w' hT'
            simp only [List.getElem_toArray, List.getElem_cons_zero, List.getElem_cons_succ]
            go_wp2_with fail
            first | exact ⟨rfl, rfl, rfl⟩ | rfl
          apply wpS_read (i := 6) rfl rfl ⟨_, hS⟩ rfl -- Op.build 72 #[(0, const (4:i64)), (1, t79), (2, t80), (3, t81)]
          · intro w' hT'
            simp only [List.getElem_toArray, List.getElem_cons_zero, List.getElem_cons_succ]
            go_wp2_with (first
              | (refine hs_loadW hT' 0 rfl rfl 70 _ rfl rfl 108 sizeRow HEL.out _ undRow.choose_spec rfl _ rfl ?_)
              | (refine hs_loadN hT' 0 rfl rfl 32 _ rfl 3 rfl DZ HEN.out 99 sizeDesc HZDL.out _ undDesc.choose_spec rfl _ rfl ?_)
              | (refine build_to rfl 32 _ rfl DZ.toArray (by rw [Array.toList_map]; exact HBZ.out) ?_)
              | (refine bin_to rfl _ _ _ _ _ rfl (moveC 4 2 s m 0 0).toArray (moveC 4 2 s m 0 0).toArray rfl rfl guardMove (.bool false) (move_neq _ _ _ _ _ _) _ rfl ?_)
              | (refine bin_to rfl _ _ _ _ _ rfl DZ.toArray DZ.toArray rfl rfl guardDesc (.bool false) HEQ.out _ rfl ?_)
              | fail)
            first | exact ⟨rfl, rfl, rfl⟩ | rfl
          apply wpS_read (i := 7) rfl rfl ⟨_, hS⟩ rfl -- Op.binOp BinOp.neq 72 t77 t82 72
          · intro w' hT'
            simp only [List.getElem_toArray, List.getElem_cons_zero, List.getElem_cons_succ]
            go_wp2_with (first
              | (refine hs_loadW hT' 0 rfl rfl 70 _ rfl rfl 108 sizeRow HEL.out _ undRow.choose_spec rfl _ rfl ?_)
              | (refine hs_loadN hT' 0 rfl rfl 32 _ rfl 3 rfl DZ HEN.out 99 sizeDesc HZDL.out _ undDesc.choose_spec rfl _ rfl ?_)
              | (refine build_to rfl 32 _ rfl DZ.toArray (by rw [Array.toList_map]; exact HBZ.out) ?_)
              | (refine bin_to rfl _ _ _ _ _ rfl (moveC 4 2 s m 0 0).toArray (moveC 4 2 s m 0 0).toArray rfl rfl guardMove (.bool false) (move_neq _ _ _ _ _ _) _ rfl ?_)
              | (refine bin_to rfl _ _ _ _ _ rfl DZ.toArray DZ.toArray rfl rfl guardDesc (.bool false) HEQ.out _ rfl ?_)
              | fail)
            first | exact ⟨rfl, rfl, rfl⟩ | rfl
          apply wpS_read (i := 8) rfl rfl ⟨_, hS⟩ rfl -- Op.move t83
          · intro w' hT'
            simp only [List.getElem_toArray, List.getElem_cons_zero, List.getElem_cons_succ]
            go_wp2_with fail
            first | exact ⟨rfl, rfl, rfl⟩ | rfl
          apply wpS_read (i := 9) rfl rfl ⟨_, hS⟩ rfl -- Op.fieldAddr 70 t18 3
          · intro w' hT'
            simp only [List.getElem_toArray, List.getElem_cons_zero, List.getElem_cons_succ]
            go_wp2_with fail
            first | exact ⟨rfl, rfl, rfl⟩ | rfl
          apply wpS_read (i := 10) rfl rfl ⟨_, hS⟩ rfl -- Op.load 32 t85
          · intro w' hT'
            simp only [List.getElem_toArray, List.getElem_cons_zero, List.getElem_cons_succ]
            have ck : w'.cell? ⟨g15, 1, none⟩ = some (.int .i64 2) := hT'.cell 5 rfl 1
            have cb : w'.cell? ⟨g18, 102, none⟩ = some (.slice none 0 0) := (hT'.cell 0 rfl 102).trans HE102.out
            go_wp2_with (first
              | (refine hs_loadW hT' 0 rfl rfl 70 _ rfl rfl 108 sizeRow HEL.out _ undRow.choose_spec rfl _ rfl ?_)
              | (refine hs_loadN hT' 0 rfl rfl 32 _ rfl 3 rfl DZ HEN.out 99 sizeDesc HZDL.out _ undDesc.choose_spec rfl _ rfl ?_)
              | (refine build_to rfl 32 _ rfl DZ.toArray (by rw [Array.toList_map]; exact HBZ.out) ?_)
              | (refine bin_to rfl _ _ _ _ _ rfl (moveC 4 2 s m 0 0).toArray (moveC 4 2 s m 0 0).toArray rfl rfl guardMove (.bool false) (move_neq _ _ _ _ _ _) _ rfl ?_)
              | (refine bin_to rfl _ _ _ _ _ rfl DZ.toArray DZ.toArray rfl rfl guardDesc (.bool false) HEQ.out _ rfl ?_)
              | fail)
            first | exact ⟨rfl, rfl, rfl⟩ | rfl
          apply wpS_read (i := 11) rfl rfl ⟨_, hS⟩ rfl -- Op.move t1
          · intro w' hT'
            simp only [List.getElem_toArray, List.getElem_cons_zero, List.getElem_cons_succ]
            go_wp2_with fail
            first | exact ⟨rfl, rfl, rfl⟩ | rfl
          apply wpS_read (i := 12) rfl rfl ⟨_, hS⟩ rfl -- Op.convert 3 29 t87
          · intro w' hT'
            simp only [List.getElem_toArray, List.getElem_cons_zero, List.getElem_cons_succ]
            go_wp2_with (first
              | (refine hs_loadW hT' 0 rfl rfl 70 _ rfl rfl 108 sizeRow HEL.out _ undRow.choose_spec rfl _ rfl ?_)
              | (refine hs_loadN hT' 0 rfl rfl 32 _ rfl 3 rfl DZ HEN.out 99 sizeDesc HZDL.out _ undDesc.choose_spec rfl _ rfl ?_)
              | (refine build_to rfl 32 _ rfl DZ.toArray (by rw [Array.toList_map]; exact HBZ.out) ?_)
              | (refine bin_to rfl _ _ _ _ _ rfl (moveC 4 2 s m 0 0).toArray (moveC 4 2 s m 0 0).toArray rfl rfl guardMove (.bool false) (move_neq _ _ _ _ _ _) _ rfl ?_)
              | (refine bin_to rfl _ _ _ _ _ rfl DZ.toArray DZ.toArray rfl rfl guardDesc (.bool false) HEQ.out _ rfl ?_)
              | fail)
            first | exact ⟨rfl, rfl, rfl⟩ | rfl
          apply wpS_read (i := 13) rfl rfl ⟨_, hS⟩ rfl -- Op.build 32 #[(0, const (9:u32)), (1, t88), (2, const (10:u32))]
          · intro w' hT'
            simp only [List.getElem_toArray, List.getElem_cons_zero, List.getElem_cons_succ]
            go_wp2_with (first
              | (refine hs_loadW hT' 0 rfl rfl 70 _ rfl rfl 108 sizeRow HEL.out _ undRow.choose_spec rfl _ rfl ?_)
              | (refine hs_loadN hT' 0 rfl rfl 32 _ rfl 3 rfl DZ HEN.out 99 sizeDesc HZDL.out _ undDesc.choose_spec rfl _ rfl ?_)
              | (refine build_to rfl 32 _ rfl DZ.toArray (by rw [Array.toList_map]; exact HBZ.out) ?_)
              | (refine bin_to rfl _ _ _ _ _ rfl (moveC 4 2 s m 0 0).toArray (moveC 4 2 s m 0 0).toArray rfl rfl guardMove (.bool false) (move_neq _ _ _ _ _ _) _ rfl ?_)
              | (refine bin_to rfl _ _ _ _ _ rfl DZ.toArray DZ.toArray rfl rfl guardDesc (.bool false) HEQ.out _ rfl ?_)
              | fail)
            first | exact ⟨rfl, rfl, rfl⟩ | rfl
          apply wpS_read (i := 14) rfl rfl ⟨_, hS⟩ rfl -- Op.binOp BinOp.neq 32 t86 t89 32
          · intro w' hT'
            simp only [List.getElem_toArray, List.getElem_cons_zero, List.getElem_cons_succ]
            go_wp2_with (first
              | (refine hs_loadW hT' 0 rfl rfl 70 _ rfl rfl 108 sizeRow HEL.out _ undRow.choose_spec rfl _ rfl ?_)
              | (refine hs_loadN hT' 0 rfl rfl 32 _ rfl 3 rfl DZ HEN.out 99 sizeDesc HZDL.out _ undDesc.choose_spec rfl _ rfl ?_)
              | (refine build_to rfl 32 _ rfl DZ.toArray (by rw [Array.toList_map]; exact HBZ.out) ?_)
              | (refine bin_to rfl _ _ _ _ _ rfl (moveC 4 2 s m 0 0).toArray (moveC 4 2 s m 0 0).toArray rfl rfl guardMove (.bool false) (move_neq _ _ _ _ _ _) _ rfl ?_)
              | (refine bin_to rfl _ _ _ _ _ rfl DZ.toArray DZ.toArray rfl rfl guardDesc (.bool false) HEQ.out _ rfl ?_)
              | fail)
            first | exact ⟨rfl, rfl, rfl⟩ | rfl
          apply wpS_read (i := 15) rfl rfl ⟨_, hS⟩ rfl -- Op.pick t84 (const (Value.bool true)) t90
          · intro w' hT'
            simp only [List.getElem_toArray, List.getElem_cons_zero, List.getElem_cons_succ]
            go_wp2_with fail
            first | exact ⟨rfl, rfl, rfl⟩ | rfl
          apply wpS_read (i := 16) rfl rfl ⟨_, hS⟩ rfl -- Op.move t91
          · intro w' hT'
            simp only [List.getElem_toArray, List.getElem_cons_zero, List.getElem_cons_succ]
            go_wp2_with fail
            first | exact ⟨rfl, rfl, rfl⟩ | rfl
          apply wpS_read (i := 17) rfl rfl ⟨_, hS⟩ rfl -- Op.fieldAddr 70 t18 4
          · intro w' hT'
            simp only [List.getElem_toArray, List.getElem_cons_zero, List.getElem_cons_succ]
            go_wp2_with fail
            first | exact ⟨rfl, rfl, rfl⟩ | rfl
          apply wpS_read (i := 18) rfl rfl ⟨_, hS⟩ rfl -- Op.load 24 t93
          · intro w' hT'
            simp only [List.getElem_toArray, List.getElem_cons_zero, List.getElem_cons_succ]
            have ck : w'.cell? ⟨g15, 1, none⟩ = some (.int .i64 2) := hT'.cell 5 rfl 1
            have cb : w'.cell? ⟨g18, 102, none⟩ = some (.slice none 0 0) := (hT'.cell 0 rfl 102).trans HE102.out
            go_wp2_with (first
              | (refine hs_loadW hT' 0 rfl rfl 70 _ rfl rfl 108 sizeRow HEL.out _ undRow.choose_spec rfl _ rfl ?_)
              | (refine hs_loadN hT' 0 rfl rfl 32 _ rfl 3 rfl DZ HEN.out 99 sizeDesc HZDL.out _ undDesc.choose_spec rfl _ rfl ?_)
              | (refine build_to rfl 32 _ rfl DZ.toArray (by rw [Array.toList_map]; exact HBZ.out) ?_)
              | (refine bin_to rfl _ _ _ _ _ rfl (moveC 4 2 s m 0 0).toArray (moveC 4 2 s m 0 0).toArray rfl rfl guardMove (.bool false) (move_neq _ _ _ _ _ _) _ rfl ?_)
              | (refine bin_to rfl _ _ _ _ _ rfl DZ.toArray DZ.toArray rfl rfl guardDesc (.bool false) HEQ.out _ rfl ?_)
              | fail)
            first | exact ⟨rfl, rfl, rfl⟩ | rfl
          apply wpS_read (i := 19) rfl rfl ⟨_, hS⟩ rfl -- Op.call { builtin len, args := #[t94], argTypes := #[24] }
          · intro w' hT'
            simp only [List.getElem_toArray, List.getElem_cons_zero, List.getElem_cons_succ]
            go_wp2_with fail
            first | exact ⟨rfl, rfl, rfl⟩ | rfl
          apply wpS_read (i := 20) rfl rfl ⟨_, hS⟩ rfl -- Op.binOp BinOp.gtr 3 t95 (const (0:i64)) 3
          · intro w' hT'
            simp only [List.getElem_toArray, List.getElem_cons_zero, List.getElem_cons_succ]
            go_wp2_with (first
              | (refine hs_loadW hT' 0 rfl rfl 70 _ rfl rfl 108 sizeRow HEL.out _ undRow.choose_spec rfl _ rfl ?_)
              | (refine hs_loadN hT' 0 rfl rfl 32 _ rfl 3 rfl DZ HEN.out 99 sizeDesc HZDL.out _ undDesc.choose_spec rfl _ rfl ?_)
              | (refine build_to rfl 32 _ rfl DZ.toArray (by rw [Array.toList_map]; exact HBZ.out) ?_)
              | (refine bin_to rfl _ _ _ _ _ rfl (moveC 4 2 s m 0 0).toArray (moveC 4 2 s m 0 0).toArray rfl rfl guardMove (.bool false) (move_neq _ _ _ _ _ _) _ rfl ?_)
              | (refine bin_to rfl _ _ _ _ _ rfl DZ.toArray DZ.toArray rfl rfl guardDesc (.bool false) HEQ.out _ rfl ?_)
              | fail)
            first | exact ⟨rfl, rfl, rfl⟩ | rfl
          apply wpS_read (i := 21) rfl rfl ⟨_, hS⟩ rfl -- Op.move t3
          · intro w' hT'
            simp only [List.getElem_toArray, List.getElem_cons_zero, List.getElem_cons_succ]
            go_wp2_with fail
            first | exact ⟨rfl, rfl, rfl⟩ | rfl
          apply wpS_read (i := 22) rfl rfl ⟨_, hS⟩ rfl -- Op.move t97
          · intro w' hT'
            simp only [List.getElem_toArray, List.getElem_cons_zero, List.getElem_cons_succ]
            go_wp2_with fail
            first | exact ⟨rfl, rfl, rfl⟩ | rfl
          apply wpS_read (i := 23) rfl rfl ⟨_, hS⟩ rfl -- Op.move t17
          · intro w' hT'
            simp only [List.getElem_toArray, List.getElem_cons_zero, List.getElem_cons_succ]
            go_wp2_with fail
            first | exact ⟨rfl, rfl, rfl⟩ | rfl
          apply wpS_read (i := 24) rfl rfl ⟨_, hS⟩ rfl -- Op.binOp BinOp.eql 3 t99 (const (3:i64)) 3
          · intro w' hT'
            simp only [List.getElem_toArray, List.getElem_cons_zero, List.getElem_cons_succ]
            go_wp2_with (first
              | (refine hs_loadW hT' 0 rfl rfl 70 _ rfl rfl 108 sizeRow HEL.out _ undRow.choose_spec rfl _ rfl ?_)
              | (refine hs_loadN hT' 0 rfl rfl 32 _ rfl 3 rfl DZ HEN.out 99 sizeDesc HZDL.out _ undDesc.choose_spec rfl _ rfl ?_)
              | (refine build_to rfl 32 _ rfl DZ.toArray (by rw [Array.toList_map]; exact HBZ.out) ?_)
              | (refine bin_to rfl _ _ _ _ _ rfl (moveC 4 2 s m 0 0).toArray (moveC 4 2 s m 0 0).toArray rfl rfl guardMove (.bool false) (move_neq _ _ _ _ _ _) _ rfl ?_)
              | (refine bin_to rfl _ _ _ _ _ rfl DZ.toArray DZ.toArray rfl rfl guardDesc (.bool false) HEQ.out _ rfl ?_)
              | fail)
            first | exact ⟨rfl, rfl, rfl⟩ | rfl
          apply wpS_read (i := 25) rfl rfl ⟨_, hS⟩ rfl -- Op.pick t98 t100 (const (Value.bool false))
          · intro w' hT'
            simp only [List.getElem_toArray, List.getElem_cons_zero, List.getElem_cons_succ]
            go_wp2_with fail
            first | exact ⟨rfl, rfl, rfl⟩ | rfl
          apply wpS_read (i := 26) rfl rfl ⟨_, hS⟩ rfl -- Op.move t101
          · intro w' hT'
            simp only [List.getElem_toArray, List.getElem_cons_zero, List.getElem_cons_succ]
            go_wp2_with fail
            first | exact ⟨rfl, rfl, rfl⟩ | rfl
          apply wpS_read (i := 27) rfl rfl ⟨_, hS⟩ rfl -- Op.move t1
          · intro w' hT'
            simp only [List.getElem_toArray, List.getElem_cons_zero, List.getElem_cons_succ]
            go_wp2_with fail
            first | exact ⟨rfl, rfl, rfl⟩ | rfl
          apply wpS_read (i := 28) rfl rfl ⟨_, hS⟩ rfl -- Op.binOp BinOp.gtr 3 t103 (const (0:i64)) 3
          · intro w' hT'
            simp only [List.getElem_toArray, List.getElem_cons_zero, List.getElem_cons_succ]
            go_wp2_with (first
              | (refine hs_loadW hT' 0 rfl rfl 70 _ rfl rfl 108 sizeRow HEL.out _ undRow.choose_spec rfl _ rfl ?_)
              | (refine hs_loadN hT' 0 rfl rfl 32 _ rfl 3 rfl DZ HEN.out 99 sizeDesc HZDL.out _ undDesc.choose_spec rfl _ rfl ?_)
              | (refine build_to rfl 32 _ rfl DZ.toArray (by rw [Array.toList_map]; exact HBZ.out) ?_)
              | (refine bin_to rfl _ _ _ _ _ rfl (moveC 4 2 s m 0 0).toArray (moveC 4 2 s m 0 0).toArray rfl rfl guardMove (.bool false) (move_neq _ _ _ _ _ _) _ rfl ?_)
              | (refine bin_to rfl _ _ _ _ _ rfl DZ.toArray DZ.toArray rfl rfl guardDesc (.bool false) HEQ.out _ rfl ?_)
              | fail)
            first | exact ⟨rfl, rfl, rfl⟩ | rfl
          apply wpS_read (i := 29) rfl rfl ⟨_, hS⟩ rfl -- Op.pick t102 t104 (const (Value.bool false))
          · intro w' hT'
            simp only [List.getElem_toArray, List.getElem_cons_zero, List.getElem_cons_succ]
            go_wp2_with fail
            first | exact ⟨rfl, rfl, rfl⟩ | rfl
          apply wpS_read (i := 30) rfl rfl ⟨_, hS⟩ rfl -- Op.binOp BinOp.neq 4 t96 t105 4
          · intro w' hT'
            simp only [List.getElem_toArray, List.getElem_cons_zero, List.getElem_cons_succ]
            go_wp2_with (first
              | (refine hs_loadW hT' 0 rfl rfl 70 _ rfl rfl 108 sizeRow HEL.out _ undRow.choose_spec rfl _ rfl ?_)
              | (refine hs_loadN hT' 0 rfl rfl 32 _ rfl 3 rfl DZ HEN.out 99 sizeDesc HZDL.out _ undDesc.choose_spec rfl _ rfl ?_)
              | (refine build_to rfl 32 _ rfl DZ.toArray (by rw [Array.toList_map]; exact HBZ.out) ?_)
              | (refine bin_to rfl _ _ _ _ _ rfl (moveC 4 2 s m 0 0).toArray (moveC 4 2 s m 0 0).toArray rfl rfl guardMove (.bool false) (move_neq _ _ _ _ _ _) _ rfl ?_)
              | (refine bin_to rfl _ _ _ _ _ rfl DZ.toArray DZ.toArray rfl rfl guardDesc (.bool false) HEQ.out _ rfl ?_)
              | fail)
            first | exact ⟨rfl, rfl, rfl⟩ | rfl
          apply wpS_read (i := 31) rfl rfl ⟨_, hS⟩ rfl -- Op.pick t92 (const (Value.bool true)) t106
          · intro w' hT'
            simp only [List.getElem_toArray, List.getElem_cons_zero, List.getElem_cons_succ]
            go_wp2_with fail
            first | exact ⟨rfl, rfl, rfl⟩ | rfl
          refine wpS_end ?_
          intro wz hT
          try dsimp only
          clear hS
          have hS : HS NoF w wz (.blk g18 70 E :: [.blk gd 122 (downC D (.slice none 0 0) false (.pointer (some ⟨g, 0, none⟩)) (.slice (some ⟨gw, 0, none⟩) m m) 0 0), .os 5 (.slice (some ⟨gw, 0, none⟩) m m) (ints .u8 (List.replicate m 0)), .blk g 148 [.int .i64 1, .slice (some ⟨gb, 0, none⟩) kb kb], .os 5 (.slice (some ⟨gb, 0, none⟩) kb kb) (ints .u8 (List.replicate kb 0)), .blk g15 72 (moveC 4 2 2 m 0 1), .blk g14 70 (R), .blk g11 32 D, .os 5 (.slice A5 bl c5) (ints .u8 bs), .os 5 (.slice A3 m c3) (ints .u8 xs)]) := hT
          clear hT
          go_wp2_with fail
          go_roundg (gk - 1)
          case measure => have := hq.out; omega
          case rel => exact ⟨s + 1, by omega, by omega, by go_num, hid (by have := hq.out; omega), hS.erase 0⟩
      · have hlt2 : ¬ (s : Int) ≤ 5 := by omega
        go_wp2_with fail
        go_ret
        exact ⟨rfl, hS.bel⟩
set_option maxRecDepth 100000 in
theorem tableTold_calls (n size at_ : Int) (down : Bool) (w : World) :
    Calls Tryd.prog 5 #[.int .i64 n, .int .i64 size, .int .i64 at_, .bool down] w fun e w' => e = .returned (.bool true) ∧ Below w.heap.size w w' := by
  cases down
  · exact tableTold_up n size at_ w
  · exact tableTold_down n size at_ w
end Go.Proofs.YtckcdngnkpfcfaaDoor
