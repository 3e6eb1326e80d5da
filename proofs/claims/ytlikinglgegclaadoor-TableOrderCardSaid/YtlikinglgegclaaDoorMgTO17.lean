import Derived.OwnWalk
import Derived.Laws.OwnMore
import Derived.Test.YtlikinglgegclaaDoorMgTO0
import Derived.Test.YtlikinglgegclaaDoorMgTO1
import Derived.Test.YtlikinglgegclaaDoorMgTO2
import Derived.Test.YtlikinglgegclaaDoorMgTO3
import Derived.Test.YtlikinglgegclaaDoorMgTO4
import Derived.Test.YtlikinglgegclaaDoorMgTO5
import Derived.Test.YtlikinglgegclaaDoorMgTO6
import Derived.Test.YtlikinglgegclaaDoorMgTO7
import Derived.Test.YtlikinglgegclaaDoorMgTO8
import Derived.Test.YtlikinglgegclaaDoorMgTO9
import Derived.Test.YtlikinglgegclaaDoorMgTO10
import Derived.Test.YtlikinglgegclaaDoorMgTO11
import Derived.Test.YtlikinglgegclaaDoorMgTO12
import Derived.Test.YtlikinglgegclaaDoorMgTO13
import Derived.Test.YtlikinglgegclaaDoorMgTO14
import Derived.Test.YtlikinglgegclaaDoorMgTO15
import Derived.Test.YtlikinglgegclaaDoorMgTO16
set_option linter.unusedSimpArgs false
set_option linter.unusedVariables false
open List (getElem_toArray getElem_cons_zero getElem_cons_succ)
/- make([]T, n). -/
namespace Go.Cour
open Go.RowKit
section
variable {P : Program} {w : World} {ops : Array Oper} {rest : List Oper} {o : Oper} {a : Act} {Q : Exit → Act → World → Prop}
end
end Go.Cour
/- The law TableOrder. -/
namespace Go.Proofs.YtlikinglgegclaaDoor
open Go.RowKit Go.Cour
set_option maxHeartbeats 8000000 in
set_option maxRecDepth 100000 in
theorem tableOrder_calls (ks : List Int) (A0 : Option Addr) (n0 c0 : Nat) (drop : Int) {w : World} {P : Nat → Addr} (hn : ks.length = n0) (hr : Rd w A0 .i64 ks) (hE : Errs w P) :
    Calls Tryd.prog 5 #[.slice A0 n0 c0, .int .i64 drop] w fun e w' => e = .returned (.bool true) ∧ Below w.heap.size w w' := by
  have hS := HS.start NoF w
  have hneq := nil_nil
  have HN := hid hn
  have HR := hid hr
  have HE := hid hE
  clear hn hr hE
  by_cases h8 : 8 < n0
  · have h8i : (8 : Int) < n0 := by omega
    go_enter Tryd.func5, Tryd.ntmps5
    go_wp2_with (first
      | (go_at_call 27; refine (first26_calls _).mono ?_; rintro e w1 ⟨rfl, hB⟩; replace hS := hS.below hB; clear hB)
      | fail)
    go_ret
    exact ⟨rfl, hS.bel⟩
  have h8i : ¬ (8 : Int) < n0 := by omega
  go_enter Tryd.func5, Tryd.ntmps5
  go_wp2_with (first
    | (go_at_call 27; refine (first26_calls _).mono ?_; rintro e w1 ⟨rfl, hB⟩; replace hS := hS.below hB; clear hB)
    | (refine alloc_blk rfl 66 rfl _ rfl (tabC (.slice none 0 0) 0) zeroTab ?_; intro gt w1 hga hba hBa hsa; have hS1 : HS NoF w w1 (tabL gt (.slice none 0 0) 0 [] ++ []) := tab_new _ _ _ [] (hS.pushBlk hBa hba hga); clear hS hga hba hBa hsa)
    | fail)
  have hS : HS NoF w w1 (tabL gt (.slice none 0 0) 0 [] ++ [.os 3 (.slice none 0 0) (ints .i64 [])]) := tab_in (hS1.push (Below.refl _ _) (.os 3 (.slice none 0 0) (ints .i64 [])) (.inl ⟨rfl, rfl⟩) (fun k hk => by simp [Ent.os, Value.ownBlock] at hk))
  clear hS1
  go_loopg [7, 8, 9, 10, 11] n0 (fun kq v7 v8 v9 v10 v11 wr => ∃ (i : Nat) (last : Int) (A1 : Option Addr) (c1 : Nat) (rows : List (List Value)) (ids : List Int) (Ai : Option Addr) (ci : Nat), v7 = .int .i64 last ∧ v8 = .slice Ai i ci ∧ v9 = .int .i64 i ∧ Hd (i + kq = n0) ∧ 0 ≤ last ∧ last ≤ 5 * i ∧ Hd (∀ x ∈ ids, x ≤ last) ∧ Hd (RowsOK rows ids i) ∧ Hd (HS NoF w wr (tabL gt (.slice A1 i c1) last rows ++ [.os 3 (.slice Ai i ci) (ints .i64 ids)])))
  case atStart => exact ⟨0, 0, none, 0, [], [], none, 0, rfl, rfl, rfl, hid (by omega), by omega, by omega, hid (fun x hx => by cases hx), hid ⟨rfl, rfl, fun j r h => by simp at h, fun i j _ h => by omega⟩, hid hS⟩
  case round =>
    clear hS
    obtain ⟨i, last, A1, c1, rows, ids, Ai, ci, rfl, rfl, rfl, hq, hl0, hl5, HIL, HOK, HSX⟩ := hrel
    have hS := HSX.out
    clear HSX
    by_cases hlt : i < n0
    · have hlt2 : (i : Int) < n0 := by omega
      obtain ⟨g1, o1, rfl⟩ := HR.out.at (by rw [HN.out]; omega)
      obtain ⟨x, hx⟩ : ∃ x, Hd (rd ks i = x) := ⟨_, hid rfl⟩
      have hcell0 := HR.out.cellAt i (by rw [HN.out]; exact hlt)
      rw [hx.out] at hcell0
      have hcw := hS.oldCell hcell0 (fun h => h)
      clear hcell0
      go_wp2_with fail
      refine (numN_calls x 5 _ (by omega) (by omega)).mono ?_
      rintro e w2 ⟨k, hk, rfl, hw2⟩
      subst hw2
      clear hcw
      obtain ⟨id, hidd⟩ : ∃ id, id = last + 1 + (k : Int) := ⟨_, rfl⟩
      have hid0 : 0 < id ∧ id ≤ 40 ∧ last < id ∧ id ≤ 5 * ((i : Int) + 1) := by omega
      have hidd2 : last + 1 + (k : Int) = id := hidd.symm
      replace hidd2 := hid hidd2
      clear hidd
      have hi8 : i < 8 := by omega
      obtain ⟨xs, hxs⟩ : ∃ xs, Hd (fileTo i 20 = xs) := ⟨_, hid rfl⟩
      have HX := hid (fileTo_length i 20)
      have RX := hid (fileTo_ok i 20)
      obtain ⟨K, hK⟩ : ∃ K, Hd (keyOf i = K) := ⟨_, hid rfl⟩
      have HK := hid (keyOf_length i)
      have RK := hid (keyOf_ok i)
      rw [hxs.out] at HX RX
      rw [hK.out] at HK RK
      have HCB := countI_bounds 20 7
      have HTS : Hd ((allTexts K xs 7).length ≤ 20 ∧ 1 ≤ (allTexts K xs 7).length) := hid (by rw [allTexts, allTo_length, HX.out]; change (countI 20 7).toNat ≤ 20 ∧ 1 ≤ (countI 20 7).toNat; omega)
      clear HCB
      have HTO := hid (allTexts_ok K xs 7 RX.out (by omega))
      have HBL := hid (blobOf_len (ts := allTexts K xs 7) (by have := HTS.out; omega) (fun X hX => (HTO.out X hX).1) (by have := HTS.out; omega))
      have HRL : Hd ((rootOf (hashesOf (allTexts K xs 7))).length = 32) := hid (rootF_H32 _ _ (hashesOf_H32 _)).1
      have HSL : Hd ((shaOf (blobOf (allTexts K xs 7))).length = 32) := hid (shaOf_length _)
      have HMK := hid fun A c w hA hc hr => make16_calls K xs i 7 A 20 c w HK.out RK.out RX.out HX.out hA hc hr (by omega) (by omega) (by omega)
      obtain ⟨bs, hbs⟩ : ∃ bs, Hd (blobOf (allTexts K xs 7) = bs) := ⟨_, hid rfl⟩
      obtain ⟨RT, hRT⟩ : ∃ RT, Hd (rootOf (hashesOf (allTexts K xs 7)) = RT) := ⟨_, hid rfl⟩
      obtain ⟨SH, hSH⟩ : ∃ SH, Hd (shaOf bs = SH) := ⟨_, hid rfl⟩
      rw [hbs.out, hSH.out] at HSL
      rw [hRT.out] at HRL
      rw [hbs.out] at HBL
      rw [hRT.out, hbs.out, hSH.out] at HMK
      obtain ⟨bl, hbl⟩ : ∃ bl, Hd (bs.length = bl) := ⟨_, hid rfl⟩
      rw [hbl.out] at HBL
      have hblb : 0 < bl ∧ bl ≤ 100000 := HBL.out
      have HDL : Hd ((descC i (20 : Nat) 7 K RT SH).length = 99) := hid (descC_length HK.out HRL.out HSL.out)
      have HD1 := hid (descC_one i (20 : Nat) 7 K RT SH)
      have HBU := hid fun A n c => builtRowN i (20 : Nat) 7 K RT SH HK.out HRL.out HSL.out id A n c
      clear HTO HTS HBL
      obtain ⟨D, hD⟩ : ∃ D, D = descC i (20 : Nat) 7 K RT SH := ⟨_, rfl⟩
      rw [← hD] at HDL HD1
      simp only [← hD] at HMK HBU
      clear hD
      have HZ1 := hid zeroD_length
      have HF := hid fun w => file_calls (i : Int) 20 w (by omega)
      go_wp2_with fail
      rw [hidd2.out]
      refine (HF.out _).mono ?_
      rintro e w3 ⟨v3, rfl, ho, hB⟩
      obtain ⟨A3, c3, h3, hc3, _, _⟩ := ho.slice
      rw [fileTo_length] at h3 hc3
      subst h3
      replace hS := hS.pushOwn hB ho
      rw [hxs.out] at hS
      replace hS : HS NoF w w3 (tabL gt (.slice A1 i c1) last rows ++ [.os 5 (.slice A3 20 c3) (ints .u8 xs), .os 3 (.slice Ai i ci) (ints .i64 ids)]) := tab_in hS
      clear ho hB
      go_wp2_with (first
          | (go_at_call 9; refine (keyC_calls _ _).mono ?_; rintro e w4 ⟨rfl, hB⟩; rw [hK.out]; replace hS := hS.below hB; clear hB)
          | fail)
      refine (HMK.out A3 c3 _ (hS.os 3 rfl).len.2.2.2 hc3 ((hS.os 3 rfl).rd rfl)).mono ?_
      rintro e w5 ⟨v5, rfl, hox, hown, hB⟩
      obtain ⟨A5, c5, h5, hc5, _⟩ := hox.parts
      rw [ints_length, hbl.out] at h5 hc5
      subst h5
      replace hS := hS.push hB (.os 5 (.slice A5 bl c5) (ints .u8 bs)) hox (fun k hk => hown k hk)
      replace hS : HS NoF w w5 (tabL gt (.slice A1 i c1) last rows ++ [.os 5 (.slice A5 bl c5) (ints .u8 bs), .os 5 (.slice A3 20 c3) (ints .u8 xs), .os 3 (.slice Ai i ci) (ints .i64 ids)]) := tab_in hS
      clear hox hown hB
      go_wp2_with (first
          | (refine alloc_blk rfl 32 rfl _ rfl zeroD zeroDesc ?_; intro g10 w11 hga hba hBa hsa; replace hS := hS.pushBlk hBa hba hga; clear hga hba hBa hsa)
          | (refine hs_storeW hS 0 rfl rfl 32 _ _ rfl rfl D rfl HD1.out 99 sizeDesc HDL.out HZ1.out _ rfl ?_; clear hS; intro w6 hS; replace hS : HS NoF w w6 (tabL gt (.slice A1 i c1) last rows ++ [.blk g10 32 D, .os 5 (.slice A5 bl c5) (ints .u8 bs), .os 5 (.slice A3 20 c3) (ints .u8 xs), .os 3 (.slice Ai i ci) (ints .i64 ids)]) := tab_in hS)
          | (refine hs_loadW hS 3 rfl rfl 32 _ rfl rfl 99 sizeDesc HDL.out _ undDesc.choose_spec rfl _ rfl ?_)
          | (refine build_to rfl 74 _ rfl (rowC id 1 1 D (.slice A5 bl c5) [.int .i64 0, .int .i64 0, .int .i64 0, .int .i64 0] (.pointer none)).toArray (by rw [Array.toList_map]; exact HBU.out A5 bl c5) ?_)
          | fail)
      have HRC := rowC_get id 1 1 D (.slice A5 bl c5) (.pointer none) 0 0 0 0 HDL.out _ rfl
      have HRO := rowC_one id 1 1 D (.slice A5 bl c5) 0 0 0 0 (.pointer none) HD1.out rfl rfl
      obtain ⟨R, hR⟩ : ∃ R, rowC id 1 1 D (.slice A5 bl c5) [.int .i64 0, .int .i64 0, .int .i64 0, .int .i64 0] (.pointer none) = R := ⟨_, rfl⟩
      rw [hR] at HRC HRO ⊢
      clear hR
      have HRL2 := hid HRC.1
      have HR0 := hid HRC.2.1
      have HRO2 := hid HRO
      have HR102 := hid HRC.2.2.2.2.2.2.2.1
      clear HRC HRO
      refine (taddH R bs id A5 bl c5 hS hi8 HOK.out.len ⟨by omega, by omega, by omega⟩ HRL2.out HRO2.out HR0.out HR102.out hbl.out.symm (hS.os 4 rfl).len.2.2.2 ((hS.os 4 rfl).rd rfl) (fun a ha _ => tab_apart hS 1 rfl a ha) (by rw [hbl.out]; omega)).mono ?_
      rintro e w8 ⟨rfl, A6, c6, vb, hS8⟩
      have HOK2 : Hd (RowsOK (rows ++ [R.set 102 vb]) (ids ++ [id]) (i + 1)) := hid (rowsOK_snoc HOK.out (by rw [List.length_set]; exact HRL2.out) (by rw [List.getElem?_set_ne (by omega)]; exact HR0.out) (fun y hy => by have := HIL.out y hy; omega))
      obtain ⟨rows2, hr2⟩ : ∃ r, rows ++ [R.set 102 vb] = r := ⟨_, rfl⟩
      rw [hr2] at HOK2 hS8
      clear hS hr2
      have hS : HS NoF w w8 (tabL gt (.slice A6 (i + 1) c6) id rows2 ++ [.os 3 (.slice Ai i ci) (ints .i64 ids)]) := ((hS8.erase 3).erase 3).erase 3
      clear hS8 HRL2 HR0 HRO2 HR102 HF HZ1 HBU HMK HD1 HDL hblb hbl hSH HSL hRT HRL hbs RK HK RX HX hxs hK
      go_wp2_with fail
      refine (next_calls id gt _ (hS.cell 0 rfl 1) (by omega)).mono ?_
      rintro e w9 ⟨rfl, hw9⟩
      subst hw9
      have HOI : Hd (ids.length = i) := hid HOK.out.idl
      go_wp2_with (first
          | (refine hs_one hS rfl 49 3 _ rfl undIntsT sizeIntT zeroIntT (.int .i64 id) rfl rfl _ rfl ?_; clear hS; intro gl w10 hgl hBl hS; clear hgl hBl)
          | (refine hs_append hS 4 rfl rfl _ _ 49 rfl 8 undIntsT infoIntT zeroIntT rfl (some ⟨gl, 0, none⟩) 1 1 rfl (ints .i64 [id]) rfl (news_of_rd (OwnS.rd (k := .i64) (xs := [id]) (hS.os 0 rfl) rfl)) (ints_one' _ _) (by rw [ints_length, HOI.out]; omega) (by rw [ints_length, HOI.out]; omega) _ rfl ?_; clear hS; intro Aj nj cj w11 hnj hcj hAj hS; rw [← ints_append] at hS; have hnj' : nj = i + 1 := (by rw [← hnj, List.length_append, ints_length, HOI.out]; rfl); subst hnj'; clear hnj; replace hS : HS NoF w w11 (tabL gt (.slice A6 (i + 1) c6) id rows2 ++ [.os 3 (.slice Aj (i + 1) cj) (ints .i64 (ids ++ [id]))]) := hS.erase 0)
          | fail)
      have HB3 := hid (builtRow3 id 1 1)
      have H30 : Hd ((endC id 1 1 (dscZ 0 0 0) (.slice none 0 0))[0]? = some (.int .i64 id)) := hid rfl
      generalize endC id 1 1 (dscZ 0 0 0) (.slice none 0 0) = R3 at *
      by_cases hi7 : i = 7
      · have hq17 : ((i : Int) + 1) / 8 = 1 := by omega
        have HPK : Hd ((if 8 ≤ i + 1 then 17 else 14) = 17) := hid (by rw [if_pos (by omega)])
        replace hi7 := hid hi7
        refine wp_region_facts (ix := [[0], [1], [2], [3], [4], [5], [6], [7], [8], [9], [10]]) (S := fun w' => HS NoF w w' (tabL gt (.slice A6 (i + 1) c6) id rows2 ++ [.os 3 (.slice Aj (i + 1) cj) (ints .i64 (ids ++ [id]))]))
          (R := fun w1 w2 => Below w1.heap.size w1 w2)
          (p := fun jO vs w' => match jO with
            | 0 => vs 0 = .int .i64 id
            | 1 => vs 1 = .agg R3.toArray
            | 2 => vs 2 = errV (P 17)
            | 3 => ∃ g, vs 3 = .slice (some ⟨g, 0, none⟩) 2 2 ∧ w'.cell? ⟨g, 1, none⟩ = some (.int .i64 118)
            | 4 => vs 4 = .int .i64 (i : Int)
            | 5 => vs 5 = .int .i64 ((i : Int) + 1)
            | 6 => vs 6 = .int .i64 1
            | 7 => ∃ g, vs 7 = .pointer (some ⟨g, 1, none⟩) ∧ w'.cell? ⟨g, 1, none⟩ = some (.int .i64 118)
            | 8 => vs 8 = .int .i64 118
            | 9 => vs 9 = .bool true
            | 10 => vs 10 = .bool false
            | _ => True)
          (by kernel_rfl) (by kernel_rfl) ?_ ?_ ?_ ?_
        · exact hS.drew
        · intro jO vs w1 w2 hR h
          match jO with
          | 0 | 1 | 2 | 4 | 5 | 6 | 8 | 9 | 10 => exact h
          | 3 => obtain ⟨g, h1, h2⟩ := h; exact ⟨g, h1, (hR.cell (lt_of_cell h2)).trans h2⟩
          | 7 => obtain ⟨g, h1, h2⟩ := h; exact ⟨g, h1, (hR.cell (lt_of_cell h2)).trans h2⟩
          | nO + 11 => trivial
        · refine ⟨?_, ?_, ?_, ?_, ?_, ?_, ?_, ?_, ?_, ?_, ?_, trivial⟩
          · (intro vs w2 hS hd; simp [Region.binds, Fact.at] at hd; simp only [fill, List.take_succ_cons, List.take_zero, Act.put, List.setIfInBounds_toArray, List.set_cons_zero, List.set_cons_succ, Nat.reduceAdd])
            try simp only [hd]
            go_wp2_with fail
            exact ⟨rfl, rfl, hS, Below.refl _ _⟩
          · (intro vs w2 hS hd; simp [Region.binds, Fact.at] at hd; simp only [fill, List.take_succ_cons, List.take_zero, Act.put, List.setIfInBounds_toArray, List.set_cons_zero, List.set_cons_succ, Nat.reduceAdd])
            simp only [hd]
            go_wp2_with (first
              | (refine build_to rfl 74 _ rfl R3.toArray (by rw [Array.toList_map]; exact HB3.out) ?_)
              | fail)
            exact ⟨rfl, rfl, hS, Below.refl _ _⟩
          · (intro vs w2 hS hd; simp [Region.binds, Fact.at] at hd; simp only [fill, List.take_succ_cons, List.take_zero, Act.put, List.setIfInBounds_toArray, List.set_cons_zero, List.set_cons_succ, Nat.reduceAdd])
            simp only [hd]
            go_wp2_with (first
              | (go_at_call 29; refine (add_bad R3 id id A6 (i + 1) c6 gt (HE.out.below hS.bel) (hS.blk 0 rfl) H30.out (by omega) (Int.le_refl _)).mono ?_; rintro e w6 ⟨rfl, hB6⟩; rw [HPK.out])
              | fail)
            exact ⟨rfl, rfl, hS.below hB6, hB6⟩
          · (intro vs w2 hS hd; simp [Region.binds, Fact.at] at hd; simp only [fill, List.take_succ_cons, List.take_zero, Act.put, List.setIfInBounds_toArray, List.set_cons_zero, List.set_cons_succ, Nat.reduceAdd])
            try simp only [hd]
            go_wp2_with (first
              | (refine hs_lit2 hS rfl 49 3 _ _ rfl undIntsT sizeIntT zeroIntT (.int .i64 115) (.int .i64 118) rfl rfl rfl rfl _ rfl ?_; intro gl wl hgl hBl hS2)
              | fail)
            exact ⟨rfl, ⟨gl, rfl, (OwnS.rd (k := .i64) (xs := [115, 118]) (hS2.os 0 rfl) rfl).cellAt 1 (by simp)⟩, hS2.erase 0, hBl⟩
          · (intro vs w2 hS hd; simp [Region.binds, Fact.at] at hd; simp only [fill, List.take_succ_cons, List.take_zero, Act.put, List.setIfInBounds_toArray, List.set_cons_zero, List.set_cons_succ, Nat.reduceAdd])
            try simp only [hd]
            go_wp2_with fail
            exact ⟨rfl, rfl, hS, Below.refl _ _⟩
          · (intro vs w2 hS hd; simp [Region.binds, Fact.at] at hd; simp only [fill, List.take_succ_cons, List.take_zero, Act.put, List.setIfInBounds_toArray, List.set_cons_zero, List.set_cons_succ, Nat.reduceAdd])
            simp only [hd]
            go_wp2_with fail
            exact ⟨rfl, rfl, hS, Below.refl _ _⟩
          · (intro vs w2 hS hd; simp [Region.binds, Fact.at] at hd; simp only [fill, List.take_succ_cons, List.take_zero, Act.put, List.setIfInBounds_toArray, List.set_cons_zero, List.set_cons_succ, Nat.reduceAdd])
            simp only [hd]
            go_wp2_with fail
            exact ⟨rfl, rfl, hS, Below.refl _ _⟩
          · (intro vs w2 hS hd; simp [Region.binds, Fact.at] at hd; simp only [fill, List.take_succ_cons, List.take_zero, Act.put, List.setIfInBounds_toArray, List.set_cons_zero, List.set_cons_succ, Nat.reduceAdd])
            obtain ⟨g, h3, hc⟩ : ∃ g, vs 3 = .slice (some ⟨g, 0, none⟩) 2 2 ∧ w2.cell? ⟨g, 1, none⟩ = some (.int .i64 118) := (by first | exact hd | exact hd.1 | exact hd.2)
            have h6 : vs 6 = .int .i64 1 := (by first | exact hd.2 | exact hd.1)
            simp only [h3, h6]
            go_wp2_with fail
            exact ⟨rfl, ⟨g, rfl, hc⟩, hS, Below.refl _ _⟩
          · (intro vs w2 hS hd; simp [Region.binds, Fact.at] at hd; simp only [fill, List.take_succ_cons, List.take_zero, Act.put, List.setIfInBounds_toArray, List.set_cons_zero, List.set_cons_succ, Nat.reduceAdd])
            obtain ⟨g, h7, hc⟩ : ∃ g, vs 7 = .pointer (some ⟨g, 1, none⟩) ∧ w2.cell? ⟨g, 1, none⟩ = some (.int .i64 118) := hd
            simp only [h7]
            go_wp2_with fail
            exact ⟨rfl, rfl, hS, Below.refl _ _⟩
          · (intro vs w2 hS hd; simp [Region.binds, Fact.at] at hd; simp only [fill, List.take_succ_cons, List.take_zero, Act.put, List.setIfInBounds_toArray, List.set_cons_zero, List.set_cons_succ, Nat.reduceAdd])
            simp only [hd]
            go_wp2_with (first
              | (go_at_call 19; refine (is_err_calls 118 (HE.out.below hS.bel) 17 (by omega)).mono ?_; rintro e w6 ⟨rfl, hB6⟩)
              | fail)
            exact ⟨rfl, rfl, hS.below hB6, hB6⟩
          · (intro vs w2 hS hd; simp [Region.binds, Fact.at] at hd; simp only [fill, List.take_succ_cons, List.take_zero, Act.put, List.setIfInBounds_toArray, List.set_cons_zero, List.set_cons_succ, Nat.reduceAdd])
            simp only [hd]
            go_wp2_with fail
            exact ⟨rfl, rfl, hS, Below.refl _ _⟩
        · intro vs wq hf hS
          have f10 : vs 10 = .bool false := hf 10 (by simp)
          simp only [fill, Act.put, List.setIfInBounds_toArray, List.set_cons_zero, List.set_cons_succ, Nat.reduceAdd]
          simp only [f10]
          clear hf f10
          try generalize vs 0 = x17_0
          try generalize vs 1 = x17_1
          try generalize vs 2 = x17_2
          try generalize vs 3 = x17_3
          try generalize vs 4 = x17_4
          try generalize vs 5 = x17_5
          try generalize vs 6 = x17_6
          try generalize vs 7 = x17_7
          try generalize vs 8 = x17_8
          try generalize vs 9 = x17_9
          try clear vs
          have hSw : HS NoF w wq (tabL gt (.slice A6 (i + 1) c6) id rows2 ++ [.os 3 (.slice Aj (i + 1) cj) (ints .i64 (ids ++ [id]))]) := hS
          clear hS
          have hS := hSw
          clear hSw
          go_wp2_with fail
          go_roundg (gk - 1)
          case measure => have := hq.out; omega
          case rel => exact ⟨i + 1, id, A6, c6, rows2, ids ++ [id], Aj, cj, rfl, rfl, by go_num, hid (by have := hq.out; omega), by omega, by omega, hid (fun y hy => by
            rcases List.mem_append.1 hy with h | h
            · have := HIL.out y h; omega
            · rw [List.mem_singleton] at h; omega), HOK2, hid hS⟩
      · have hq17 : ((i : Int) + 1) / 8 = 0 := by omega
        have HPK : Hd ((if 8 ≤ i + 1 then 17 else 14) = 14) := hid (by rw [if_neg (by omega)])
        replace hi7 := hid hi7
        refine wp_region_facts (ix := [[0], [1], [2], [3], [4], [5], [6], [7], [8], [9], [10]]) (S := fun w' => HS NoF w w' (tabL gt (.slice A6 (i + 1) c6) id rows2 ++ [.os 3 (.slice Aj (i + 1) cj) (ints .i64 (ids ++ [id]))]))
          (R := fun w1 w2 => Below w1.heap.size w1 w2)
          (p := fun jO vs w' => match jO with
            | 0 => vs 0 = .int .i64 id
            | 1 => vs 1 = .agg R3.toArray
            | 2 => vs 2 = errV (P 14)
            | 3 => ∃ g, vs 3 = .slice (some ⟨g, 0, none⟩) 2 2 ∧ w'.cell? ⟨g, 0, none⟩ = some (.int .i64 115)
            | 4 => vs 4 = .int .i64 (i : Int)
            | 5 => vs 5 = .int .i64 ((i : Int) + 1)
            | 6 => vs 6 = .int .i64 0
            | 7 => ∃ g, vs 7 = .pointer (some ⟨g, 0, none⟩) ∧ w'.cell? ⟨g, 0, none⟩ = some (.int .i64 115)
            | 8 => vs 8 = .int .i64 115
            | 9 => vs 9 = .bool true
            | 10 => vs 10 = .bool false
            | _ => True)
          (by kernel_rfl) (by kernel_rfl) ?_ ?_ ?_ ?_
        · exact hS.drew
        · intro jO vs w1 w2 hR h
          match jO with
          | 0 | 1 | 2 | 4 | 5 | 6 | 8 | 9 | 10 => exact h
          | 3 => obtain ⟨g, h1, h2⟩ := h; exact ⟨g, h1, (hR.cell (lt_of_cell h2)).trans h2⟩
          | 7 => obtain ⟨g, h1, h2⟩ := h; exact ⟨g, h1, (hR.cell (lt_of_cell h2)).trans h2⟩
          | nO + 11 => trivial
        · refine ⟨?_, ?_, ?_, ?_, ?_, ?_, ?_, ?_, ?_, ?_, ?_, trivial⟩
          · (intro vs w2 hS hd; simp [Region.binds, Fact.at] at hd; simp only [fill, List.take_succ_cons, List.take_zero, Act.put, List.setIfInBounds_toArray, List.set_cons_zero, List.set_cons_succ, Nat.reduceAdd])
            try simp only [hd]
            go_wp2_with fail
            exact ⟨rfl, rfl, hS, Below.refl _ _⟩
          · (intro vs w2 hS hd; simp [Region.binds, Fact.at] at hd; simp only [fill, List.take_succ_cons, List.take_zero, Act.put, List.setIfInBounds_toArray, List.set_cons_zero, List.set_cons_succ, Nat.reduceAdd])
            simp only [hd]
            go_wp2_with (first
              | (refine build_to rfl 74 _ rfl R3.toArray (by rw [Array.toList_map]; exact HB3.out) ?_)
              | fail)
            exact ⟨rfl, rfl, hS, Below.refl _ _⟩
          · (intro vs w2 hS hd; simp [Region.binds, Fact.at] at hd; simp only [fill, List.take_succ_cons, List.take_zero, Act.put, List.setIfInBounds_toArray, List.set_cons_zero, List.set_cons_succ, Nat.reduceAdd])
            simp only [hd]
            go_wp2_with (first
              | (go_at_call 29; refine (add_bad R3 id id A6 (i + 1) c6 gt (HE.out.below hS.bel) (hS.blk 0 rfl) H30.out (by omega) (Int.le_refl _)).mono ?_; rintro e w6 ⟨rfl, hB6⟩; rw [HPK.out])
              | fail)
            exact ⟨rfl, rfl, hS.below hB6, hB6⟩
          · (intro vs w2 hS hd; simp [Region.binds, Fact.at] at hd; simp only [fill, List.take_succ_cons, List.take_zero, Act.put, List.setIfInBounds_toArray, List.set_cons_zero, List.set_cons_succ, Nat.reduceAdd])
            try simp only [hd]
            go_wp2_with (first
              | (refine hs_lit2 hS rfl 49 3 _ _ rfl undIntsT sizeIntT zeroIntT (.int .i64 115) (.int .i64 118) rfl rfl rfl rfl _ rfl ?_; intro gl wl hgl hBl hS2)
              | fail)
            exact ⟨rfl, ⟨gl, rfl, (OwnS.rd (k := .i64) (xs := [115, 118]) (hS2.os 0 rfl) rfl).cellAt 0 (by simp)⟩, hS2.erase 0, hBl⟩
          · (intro vs w2 hS hd; simp [Region.binds, Fact.at] at hd; simp only [fill, List.take_succ_cons, List.take_zero, Act.put, List.setIfInBounds_toArray, List.set_cons_zero, List.set_cons_succ, Nat.reduceAdd])
            try simp only [hd]
            go_wp2_with fail
            exact ⟨rfl, rfl, hS, Below.refl _ _⟩
          · (intro vs w2 hS hd; simp [Region.binds, Fact.at] at hd; simp only [fill, List.take_succ_cons, List.take_zero, Act.put, List.setIfInBounds_toArray, List.set_cons_zero, List.set_cons_succ, Nat.reduceAdd])
            simp only [hd]
            go_wp2_with fail
            exact ⟨rfl, rfl, hS, Below.refl _ _⟩
          · (intro vs w2 hS hd; simp [Region.binds, Fact.at] at hd; simp only [fill, List.take_succ_cons, List.take_zero, Act.put, List.setIfInBounds_toArray, List.set_cons_zero, List.set_cons_succ, Nat.reduceAdd])
            simp only [hd]
            go_wp2_with fail
            exact ⟨rfl, rfl, hS, Below.refl _ _⟩
          · (intro vs w2 hS hd; simp [Region.binds, Fact.at] at hd; simp only [fill, List.take_succ_cons, List.take_zero, Act.put, List.setIfInBounds_toArray, List.set_cons_zero, List.set_cons_succ, Nat.reduceAdd])
            obtain ⟨g, h3, hc⟩ : ∃ g, vs 3 = .slice (some ⟨g, 0, none⟩) 2 2 ∧ w2.cell? ⟨g, 0, none⟩ = some (.int .i64 115) := (by first | exact hd | exact hd.1 | exact hd.2)
            have h6 : vs 6 = .int .i64 0 := (by first | exact hd.2 | exact hd.1)
            simp only [h3, h6]
            go_wp2_with fail
            exact ⟨rfl, ⟨g, rfl, hc⟩, hS, Below.refl _ _⟩
          · (intro vs w2 hS hd; simp [Region.binds, Fact.at] at hd; simp only [fill, List.take_succ_cons, List.take_zero, Act.put, List.setIfInBounds_toArray, List.set_cons_zero, List.set_cons_succ, Nat.reduceAdd])
            obtain ⟨g, h7, hc⟩ : ∃ g, vs 7 = .pointer (some ⟨g, 0, none⟩) ∧ w2.cell? ⟨g, 0, none⟩ = some (.int .i64 115) := hd
            simp only [h7]
            go_wp2_with fail
            exact ⟨rfl, rfl, hS, Below.refl _ _⟩
          · (intro vs w2 hS hd; simp [Region.binds, Fact.at] at hd; simp only [fill, List.take_succ_cons, List.take_zero, Act.put, List.setIfInBounds_toArray, List.set_cons_zero, List.set_cons_succ, Nat.reduceAdd])
            simp only [hd]
            go_wp2_with (first
              | (go_at_call 19; refine (is_err_calls 115 (HE.out.below hS.bel) 14 (by omega)).mono ?_; rintro e w6 ⟨rfl, hB6⟩)
              | fail)
            exact ⟨rfl, rfl, hS.below hB6, hB6⟩
          · (intro vs w2 hS hd; simp [Region.binds, Fact.at] at hd; simp only [fill, List.take_succ_cons, List.take_zero, Act.put, List.setIfInBounds_toArray, List.set_cons_zero, List.set_cons_succ, Nat.reduceAdd])
            simp only [hd]
            go_wp2_with fail
            exact ⟨rfl, rfl, hS, Below.refl _ _⟩
        · intro vs wq hf hS
          have f10 : vs 10 = .bool false := hf 10 (by simp)
          simp only [fill, Act.put, List.setIfInBounds_toArray, List.set_cons_zero, List.set_cons_succ, Nat.reduceAdd]
          simp only [f10]
          clear hf f10
          try generalize vs 0 = x17_0
          try generalize vs 1 = x17_1
          try generalize vs 2 = x17_2
          try generalize vs 3 = x17_3
          try generalize vs 4 = x17_4
          try generalize vs 5 = x17_5
          try generalize vs 6 = x17_6
          try generalize vs 7 = x17_7
          try generalize vs 8 = x17_8
          try generalize vs 9 = x17_9
          try clear vs
          have hSw : HS NoF w wq (tabL gt (.slice A6 (i + 1) c6) id rows2 ++ [.os 3 (.slice Aj (i + 1) cj) (ints .i64 (ids ++ [id]))]) := hS
          clear hS
          have hS := hSw
          clear hSw
          go_wp2_with fail
          go_roundg (gk - 1)
          case measure => have := hq.out; omega
          case rel => exact ⟨i + 1, id, A6, c6, rows2, ids ++ [id], Aj, cj, rfl, rfl, by go_num, hid (by have := hq.out; omega), by omega, by omega, hid (fun y hy => by
            rcases List.mem_append.1 hy with h | h
            · have := HIL.out y h; omega
            · rw [List.mem_singleton] at h; omega), HOK2, hid hS⟩
    · obtain rfl : i = n0 := by have := hq.out; omega
      by_cases h0 : i = 0
      · subst h0
        go_wp2_with fail
        refine (tallH ids hS HOK.out (by omega)).mono ?_
        rintro e w2 ⟨A7, c7, rows7, rfl, hok7, hS2⟩
        go_wp2_with fail
        refine (drop_miss rows ids A1 0 c1 gt 1 last _ (hS2.blk 1 rfl) (hS2.oa 2 rfl) HOK.out (by omega) (fun k hk => by omega)).mono ?_
        rintro e w3 ⟨rfl, hB3⟩
        replace hS2 := hS2.below hB3
        clear hB3
        go_wp2_with fail
        go_ret
        exact ⟨rfl, hS2.bel⟩
      have hi0 : ¬ (i : Int) = 0 := by omega
      have hi1 : 0 < i := by omega
      have HOI : Hd (ids.length = i) := hid HOK.out.idl
      have hi8 : i ≤ 8 := by omega
      clear h0 h8
      obtain ⟨g2, o2, rfl⟩ := ((hS.os 3 rfl).rd rfl).at (by rw [HOI.out]; exact hi1)
      go_wp2_with fail
      refine (numN_calls drop (i : Int) _ (by omega) (by omega)).mono ?_
      rintro e w2 ⟨k, hk, rfl, hw2⟩
      subst hw2
      have hkn : k < i := by omega
      obtain ⟨t, ht⟩ : ∃ t, Hd (rd ids k = t) := ⟨_, hid rfl⟩
      have HINJ : Hd (∀ j, j < i → rd ids j = t → j = k) := hid (fun j hj hjt => by
        rcases Nat.lt_trichotomy j k with h | h | h
        · have := HOK.out.sorted j k h hkn; rw [hjt, ht.out] at this; omega
        · exact h
        · have := HOK.out.sorted k j h hj; rw [hjt, ht.out] at this; omega)
      have HTL : Hd (t ≤ last) := hid (HIL.out t (by
        have hlt : k < ids.length := by rw [HOI.out]; exact hkn
        have h : rd ids k = ids[k] := by unfold rd; rw [List.getD_eq_getElem?_getD, List.getElem?_eq_getElem hlt]; rfl
        rw [← ht.out, h]; exact List.getElem_mem hlt))
      have ck := ((hS.os 3 rfl).rd rfl).cellAt k (by rw [HOI.out]; exact hkn)
      rw [ht.out] at ck
      go_wp2_with fail
      refine (tgetH ids t hS HOK.out hi8 ⟨k, hkn, ht.out⟩).mono ?_
      rintro e w3 ⟨k2, R, v, xs, rfl, hk2, he2, hR, hv1, hxl, hS3⟩
      obtain rfl : k = k2 := (HINJ.out k2 hk2 he2).symm
      clear hS ck he2
      obtain ⟨hRL, hR0⟩ := HOK.out.each k R hR
      rw [ht.out] at hR0
      have hR1 : ∀ u ∈ R, u.oneCell' = true := (tab_rd (tab_in hS3) R (List.mem_of_getElem? hR)).2.1
      obtain ⟨A7, c7, rfl, _, _, hA7, _, _⟩ := (hS3.os 0 rfl).parts
      obtain ⟨m, hm⟩ : ∃ m, Hd (xs.length = m) := ⟨_, hid rfl⟩
      rw [ints_length, hm.out] at hS3 ⊢
      have hS : HS NoF w w3 (tabL gt (.slice A1 i c1) last rows ++  [.os 5 (.slice A7 m c7) (ints .u8 xs), .os 3 (.slice (some ⟨g2, o2, none⟩) i ci) (ints .i64 ids)]) := tab_in hS3
      clear hS3
      obtain ⟨R1, hR1e⟩ : ∃ R1, R.set 102 (.slice A7 m c7) = R1 := ⟨_, rfl⟩
      have H1L : Hd (R1.length = 108) := hid (by rw [← hR1e, List.length_set]; exact hRL)
      have H1O : Hd (∀ u ∈ R1, u.oneCell' = true) := hid (fun u hu => by
        rw [← hR1e] at hu
        rcases List.mem_or_eq_of_mem_set hu with h | rfl
        · exact hR1 u h
        · rfl)
      have H10 : Hd (R1[0]? = some (.int .i64 t)) := hid (by rw [← hR1e, List.getElem?_set_ne (by omega)]; exact hR0)
      have H1B : Hd (R1[102]? = some (.slice A7 m c7)) := hid (by rw [← hR1e, List.getElem?_set_self (by omega)])
      rw [hR1e]
      clear hR1e hRL hR0 hR1 hR
      obtain ⟨R2, hR2e⟩ : ∃ R2, Hd (R1.set 2 (.int .i64 2) = R2) := ⟨_, hid rfl⟩
      have H2L : Hd (R2.length = 108) := hid (by rw [← hR2e.out, List.length_set]; exact H1L.out)
      have H2O : Hd (∀ u ∈ R2, u.oneCell' = true) := hid (fun u hu => by
        rw [← hR2e.out] at hu
        rcases List.mem_or_eq_of_mem_set hu with h | rfl
        · exact H1O.out u h
        · rfl)
      have H20 : Hd (R2[0]? = some (.int .i64 t)) := hid (by rw [← hR2e.out, List.getElem?_set_ne (by omega)]; exact H10.out)
      have H22 : Hd (R2[2]? = some (.int .i64 2)) := hid (by rw [← hR2e.out, List.getElem?_set_self (by rw [H1L.out]; omega)])
      have H2B : Hd (R2[102]? = some (.slice A7 m c7)) := hid (by rw [← hR2e.out, List.getElem?_set_ne (by omega)]; exact H1B.out)
      have HZ := hid zeroRow
      have HZL : Hd (rowZ.length = 108) := hid rowZ_length
      generalize rowZ = RZ at *
      obtain ⟨fs, hfs⟩ := undRow
      have HA7 := hid hA7
      clear hA7
      go_wp2_with (first
          | (refine alloc_blk rfl 74 rfl _ rfl RZ HZ.out ?_; intro g13 w4 hga hba hBa hsa; replace hS := hS.pushBlk hBa hba hga; clear hga hba hBa hsa)
          | (refine hs_storeW hS 0 rfl rfl 74 _ _ rfl rfl R1 rfl H1O.out 108 sizeRow H1L.out HZL.out _ rfl ?_; clear hS; intro w5 hS; replace hS : HS NoF w w5 (tabL gt (.slice A1 i c1) last rows ++  [.blk g13 74 R1, .os 5 (.slice A7 m c7) (ints .u8 xs), .os 3 (.slice (some ⟨g2, o2, none⟩) i ci) (ints .i64 ids)]) := tab_in hS)
          | (refine hs_store1 hS 3 rfl rfl 3 _ _ rfl 2 rfl (.int .i64 2) rfl rfl sizeIntT (by rw [H1L.out]; omega) _ rfl ?_; clear hS; intro w6 hS; rw [hR2e.out] at hS; replace hS : HS NoF w w6 (tabL gt (.slice A1 i c1) last rows ++  [.blk g13 74 R2, .os 5 (.slice A7 m c7) (ints .u8 xs), .os 3 (.slice (some ⟨g2, o2, none⟩) i ci) (ints .i64 ids)]) := hS)
          | (refine hs_loadW hS 3 rfl rfl 74 _ rfl rfl 108 sizeRow H2L.out _ hfs rfl _ rfl ?_)
          | fail)
      refine (tsetH ids t R2 A7 m c7 xs hS HOK.out hi8 ⟨k, hkn, ht.out⟩ H20.out H2L.out H2O.out H2B.out hm.out.symm HA7.out ((hS.os 4 rfl).rd rfl) hxl (fun a ha _ h => tab_apart hS 1 rfl a ha (.inr h))).mono ?_
      rintro e w7 ⟨k4, v4, rfl, hk4, he4, hS7⟩
      obtain rfl : k = k4 := (HINJ.out k4 hk4 he4).symm
      have HOK4 := hid (rowsOK_set (R := R2.set 102 v4) (k := k) HOK.out (by rw [List.length_set]; exact H2L.out) (by rw [List.getElem?_set_ne (by omega), ht.out]; exact H20.out))
      have H4K : Hd ((rows.set k (R2.set 102 v4))[k]? = some (R2.set 102 v4)) := hid (by rw [List.getElem?_set_self (by rw [HOK.out.len]; exact hkn)])
      obtain ⟨rows4, hr4⟩ : ∃ r, rows.set k (R2.set 102 v4) = r := ⟨_, rfl⟩
      rw [hr4] at HOK4 H4K hS7
      clear hS he4 hr4
      have hS : HS NoF w w7 (tabL gt (.slice A1 i c1) last rows4 ++  [.blk g13 74 R2, .os 5 (.slice A7 m c7) (ints .u8 xs), .os 3 (.slice (some ⟨g2, o2, none⟩) i ci) (ints .i64 ids)]) := hS7
      clear hS7
      have ck := ((hS.os 5 rfl).rd rfl).cellAt k (by rw [HOI.out]; exact hkn)
      rw [ht.out] at ck
      go_wp2_with fail
      refine (tgetH ids t hS HOK4.out hi8 ⟨k, hkn, ht.out⟩).mono ?_
      rintro e w9 ⟨k5, R5, v5, xs5, rfl, hk5, he5, hR5, hv5, _, hS9⟩
      obtain rfl : k = k5 := (HINJ.out k5 hk5 he5).symm
      rw [H4K.out] at hR5
      injection hR5 with hR5
      clear hS ck he5
      have hS : HS NoF w w9 (tabL gt (.slice A1 i c1) last rows4 ++  [.blk g13 74 R2, .os 5 (.slice A7 m c7) (ints .u8 xs), .os 3 (.slice (some ⟨g2, o2, none⟩) i ci) (ints .i64 ids)]) := hS9.erase 0
      clear hS9
      obtain ⟨R6, hR6⟩ : ∃ R6, R5.set 102 v5 = R6 := ⟨_, rfl⟩
      have h4O : ∀ u ∈ R5, u.oneCell' = true := (tab_rd hS R5 (List.mem_of_getElem? (by rw [← hR5]; exact H4K.out))).2.1
      have H6L : Hd (R6.length = 108) := hid (by rw [← hR6, ← hR5, List.length_set, List.length_set]; exact H2L.out)
      have H6O : Hd (∀ u ∈ R6, u.oneCell' = true) := hid (fun u hu => by
        rw [← hR6] at hu
        rcases List.mem_or_eq_of_mem_set hu with h | rfl
        · exact h4O u h
        · exact hv5)
      have H62 : Hd (R6[2]? = some (.int .i64 2)) := hid (by rw [← hR6, ← hR5, List.getElem?_set_ne (by omega), List.getElem?_set_ne (by omega)]; exact H22.out)
      rw [hR6]
      clear hR6 hR5 h4O hv5
      go_wp2_with (first
          | (refine alloc_blk rfl 74 rfl _ rfl RZ HZ.out ?_; intro g15 wa hga hba hBa hsa; replace hS := hS.pushBlk hBa hba hga; clear hga hba hBa hsa)
          | (refine hs_storeW hS 0 rfl rfl 74 _ _ rfl rfl R6 rfl H6O.out 108 sizeRow H6L.out HZL.out _ rfl ?_; clear hS; intro wb hS; replace hS : HS NoF w wb (tabL gt (.slice A1 i c1) last rows4 ++  [.blk g15 74 R6, .blk g13 74 R2, .os 5 (.slice A7 m c7) (ints .u8 xs), .os 3 (.slice (some ⟨g2, o2, none⟩) i ci) (ints .i64 ids)]) := tab_in hS)
          | fail)
      refine (next_calls last gt _ (hS.cell 0 rfl 1) (by omega)).mono ?_
      rintro e wc ⟨rfl, hwc⟩
      subst hwc
      have c2 := (hS.cell 3 rfl 2).trans H62.out
      have ck := ((hS.os 6 rfl).rd rfl).cellAt k (by rw [HOI.out]; exact hkn)
      rw [ht.out] at ck
      go_wp2_with fail
      refine (tdropH ids t hS HOK4.out hi8 ⟨k, hkn, ht.out⟩).mono ?_
      rintro e wd ⟨k6, rfl, hk6, he6, hSd⟩
      obtain rfl : k = k6 := (HINJ.out k6 hk6 he6).symm
      have HOK5 := hid (rowsOK_drop HOK4.out hkn)
      have HNE : Hd (∀ j, j < i - 1 → rd (ids.eraseIdx k) j = if j < k then rd ids j else rd ids (j + 1)) := hid (fun j hj => by
        unfold rd
        rw [List.getD_eq_getElem?_getD, List.getElem?_eraseIdx]
        split <;> rw [List.getD_eq_getElem?_getD])
      obtain ⟨n1, hn1⟩ : ∃ n1, Hd (i - 1 = n1) := ⟨_, hid rfl⟩
      obtain ⟨ids5, hi5⟩ : ∃ l, Hd (ids.eraseIdx k = l) := ⟨_, hid rfl⟩
      obtain ⟨rows5, hr5⟩ : ∃ l, rows4.take k ++ rows4.drop (k + 1) = l := ⟨_, rfl⟩
      rw [hn1.out, hi5.out, hr5] at HOK5
      rw [hn1.out, hr5] at hSd
      rw [hn1.out, hi5.out] at HNE
      have hn17 : n1 ≤ 7 ∧ n1 + 1 = i := by have := hn1.out; omega
      have HMISS : Hd (∀ j, j < n1 → rd ids5 j ≠ t) := hid (fun j hj h => by
        rw [HNE.out j hj] at h
        by_cases hjk : j < k
        · rw [if_pos hjk] at h; have := HINJ.out j (by omega) h; omega
        · rw [if_neg hjk] at h; have := HINJ.out (j + 1) (by omega) h; omega)
      clear hS ck c2 he6 hr5 hi5
      have hS : HS NoF w wd (tabL gt (.slice A1 n1 c1) last rows5 ++  [.blk g15 74 R6, .blk g13 74 R2, .os 5 (.slice A7 m c7) (ints .u8 xs), .os 3 (.slice (some ⟨g2, o2, none⟩) i ci) (ints .i64 ids)]) := hSd
      clear hSd
      have ck := ((hS.os 6 rfl).rd rfl).cellAt k (by rw [HOI.out]; exact hkn)
      rw [ht.out] at ck
      go_wp2_with fail
      refine (drop_miss rows5 ids5 A1 n1 c1 gt t last _ (hS.blk 0 rfl) (hS.oa 1 rfl) HOK5.out (by omega) HMISS.out).mono ?_
      rintro e we ⟨rfl, hB⟩
      replace hS : HS NoF w we (tabL gt (.slice A1 n1 c1) last rows5 ++  [.blk g15 74 R6, .blk g13 74 R2, .os 5 (.slice A7 m c7) (ints .u8 xs), .os 3 (.slice (some ⟨g2, o2, none⟩) i ci) (ints .i64 ids)]) := hS.below hB
      clear hB ck
      go_wp2_with (first
          | (refine hs_loadW hS 4 rfl rfl 74 _ rfl rfl 108 sizeRow H2L.out _ hfs rfl _ rfl ?_)
          | fail)
      refine (set_miss rows5 ids5 R2 A1 n1 c1 gt t last _ (hS.blk 0 rfl) (hS.oa 1 rfl) HOK5.out (by omega) HMISS.out H20.out).mono ?_
      rintro e wf ⟨rfl, hB⟩
      replace hS : HS NoF w wf (tabL gt (.slice A1 n1 c1) last rows5 ++  [.blk g15 74 R6, .blk g13 74 R2, .os 5 (.slice A7 m c7) (ints .u8 xs), .os 3 (.slice (some ⟨g2, o2, none⟩) i ci) (ints .i64 ids)]) := hS.below hB
      clear hB
      go_wp2_with fail
      refine (next_calls last gt _ (hS.cell 0 rfl 1) (by omega)).mono ?_
      rintro e wg ⟨rfl, hwg⟩
      subst hwg
      go_wp2_with fail
      refine (tallH ids5 hS HOK5.out (by omega)).mono ?_
      rintro e wh ⟨A8, c8, rows8, rfl, HOK8, hS8⟩
      replace HOK8 := hid HOK8
      clear hS
      have hS : HS NoF w wh (.oa 74 108 (.slice A8 n1 c8) rows8 :: (tabL gt (.slice A1 n1 c1) last rows5 ++  [.blk g15 74 R6, .blk g13 74 R2, .os 5 (.slice A7 m c7) (ints .u8 xs), .os 3 (.slice (some ⟨g2, o2, none⟩) i ci) (ints .i64 ids)])) := hS8
      clear hS8
      go_wp2_with fail
      go_loopg [19, 20] i (fun kq v19 v20 wr => ∃ j a : Nat, v19 = .int .i64 a ∧ v20 = .int .i64 j ∧ Hd (j + kq = i) ∧ Hd ((j ≤ k ∧ a = j) ∨ (k < j ∧ a + 1 = j)) ∧ Hd (HS NoF w wr (.oa 74 108 (.slice A8 n1 c8) rows8 :: (tabL gt (.slice A1 n1 c1) last rows5 ++  [.blk g15 74 R6, .blk g13 74 R2, .os 5 (.slice A7 m c7) (ints .u8 xs), .os 3 (.slice (some ⟨g2, o2, none⟩) i ci) (ints .i64 ids)]))))
      case atStart => exact ⟨0, 0, rfl, rfl, hid (by omega), hid (.inl ⟨by omega, rfl⟩), hid hS⟩
      case round =>
        clear hS
        obtain ⟨j, a, rfl, rfl, hq2, HJ, HSX⟩ := hrel
        have hS := HSX.out
        clear HSX
        by_cases hji : j < i
        · have hji2 : (j : Int) < i := by omega
          by_cases hjk : j = k
          · have hjk2 : (j : Int) = k := by omega
            replace hjk := hid hjk
            go_wp2_with fail
            go_roundg (gk - 1)
            case measure => have := hq2.out; omega
            case rel => exact ⟨j + 1, a, rfl, by go_num, hid (by have := hq2.out; omega), hid (by have := HJ.out; have := hjk.out; omega), hid hS⟩
          · have hjk2 : ¬ (j : Int) = k := by omega
            have han : a < n1 := by have := HJ.out; omega
            have han2 : ¬ (n1 : Int) ≤ a := by omega
            obtain ⟨x, hx⟩ : ∃ x, Hd (rd ids j = x) := ⟨_, hid rfl⟩
            have hxa : rd ids5 a = x := by
              rw [HNE.out a han, ← hx.out]
              rcases HJ.out with ⟨h1, h2⟩ | ⟨h1, h2⟩
              · subst h2; rw [if_pos (by omega)]
              · rw [if_neg (by omega), h2]
            obtain ⟨R9, hR9⟩ : ∃ R, rows8[a]? = some R := ⟨_, List.getElem?_eq_getElem (by rw [HOK8.out.len]; exact han)⟩
            have h90 := (HOK8.out.each a R9 hR9).2
            rw [hxa] at h90
            obtain ⟨A', c', hv, _, hcell⟩ := (hS.oa 0 rfl).parts
            injection hv with hv1 hv2 hv3
            subst hv1 hv3
            obtain ⟨g8, rfl, hc⟩ := hcell a R9 hR9
            have ca := hc 0 _ h90
            rw [Nat.add_zero] at ca
            have cj := ((hS.os 7 rfl).rd rfl).cellAt j (by rw [HOI.out]; exact hji)
            rw [hx.out] at cj
            have han3 : (a : Int) < n1 := by omega
            clear hc hcell hv2 h90 hxa hR9
            replace hjk := hid hjk
            go_wp2_with fail
            go_quiet (fail)
            go_wp2_with fail
            go_roundg (gk - 1)
            case measure => have := hq2.out; omega
            case rel => exact ⟨j + 1, a + 1, by go_num, by go_num, hid (by have := hq2.out; omega), hid (by have := HJ.out; have := hjk.out; omega), hid (hS.drewN _)⟩
        · have hji2 : ¬ (j : Int) < i := by omega
          obtain rfl : n1 = a := by have := HJ.out; have := hq2.out; omega
          go_wp2_with (first
              | (refine hs_loadW hS 5 rfl rfl 74 _ rfl rfl 108 sizeRow H2L.out _ hfs rfl _ rfl ?_)
              | fail)
          refine (add_bad R2 t last A1 n1 c1 gt (HE.out.below hS.bel) (hS.blk 1 rfl) H20.out (by omega) HTL.out).mono ?_
          rintro e wi ⟨rfl, hB⟩
          replace hS := hS.below hB
          rw [if_neg (show ¬ 8 ≤ n1 by omega)]
          clear hB
          go_wp2_with fail
          refine (is_err_calls 115 (HE.out.below hS.bel) 14 (by omega)).mono ?_
          rintro e wj ⟨rfl, hB⟩
          replace hS := hS.below hB
          clear hB
          go_wp2_with fail
          go_ret
          exact ⟨rfl, hS.bel⟩
end Go.Proofs.YtlikinglgegclaaDoor
