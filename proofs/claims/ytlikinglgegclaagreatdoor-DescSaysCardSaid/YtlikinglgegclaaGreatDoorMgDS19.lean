import Derived.Laws.BitsAllLaws
import Derived.Test.YtlikinglgegclaaGreatDoorMgDS0
import Derived.Test.YtlikinglgegclaaGreatDoorMgDS1
import Derived.Test.YtlikinglgegclaaGreatDoorMgDS2
import Derived.Test.YtlikinglgegclaaGreatDoorMgDS3
import Derived.Test.YtlikinglgegclaaGreatDoorMgDS4
import Derived.Test.YtlikinglgegclaaGreatDoorMgDS5
import Derived.Test.YtlikinglgegclaaGreatDoorMgDS6
import Derived.Test.YtlikinglgegclaaGreatDoorMgDS7
import Derived.Test.YtlikinglgegclaaGreatDoorMgDS8
import Derived.Test.YtlikinglgegclaaGreatDoorMgDS9
import Derived.Test.YtlikinglgegclaaGreatDoorMgDS10
import Derived.Test.YtlikinglgegclaaGreatDoorMgDS11
import Derived.Test.YtlikinglgegclaaGreatDoorMgDS12
import Derived.Test.YtlikinglgegclaaGreatDoorMgDS13
import Derived.Test.YtlikinglgegclaaGreatDoorMgDS14
import Derived.Test.YtlikinglgegclaaGreatDoorMgDS15
import Derived.Test.YtlikinglgegclaaGreatDoorMgDS16
import Derived.Test.YtlikinglgegclaaGreatDoorMgDS17
import Derived.Test.YtlikinglgegclaaGreatDoorMgDS18
set_option linter.unusedSimpArgs false
set_option linter.unusedVariables false
open List (getElem_toArray getElem_cons_zero getElem_cons_succ)
/- A number's four bytes are that number. -/
namespace Go.Proofs.YtlikinglgegclaaGreatDoor
open Go.RowKit Go.Cour
theorem le4_bytes (x : Int) (h : 0 ≤ x ∧ x < 4294967296) : ∀ y ∈ le4 x, 0 ≤ y ∧ y < 256 := fun y hy => by
  simp only [le4, List.mem_cons, List.not_mem_nil, or_false] at hy
  rcases hy with rfl | rfl | rfl | rfl <;> omega
end Go.Proofs.YtlikinglgegclaaGreatDoor
/- A desc's bytes, read. -/
namespace Go.Proofs.YtlikinglgegclaaGreatDoor
open Go.RowKit Go.Cour
section
variable {id m q : Int} {k r b : List Int}
theorem descB_length (hk : k.length = 32) (hr : r.length = 32) (hb : b.length = 32) : (descB id m q k r b).length = 108 := by simp [descB, le4, hk, hr, hb]
theorem bokT_append {xs ys : List Int} (hx : bytesOk xs) (hy : bytesOk ys) : bytesOk (xs ++ ys) := fun i => by
  unfold rd
  rw [List.getD_eq_getElem?_getD, List.getElem?_append]
  split
  · have := hx i; unfold rd at this; rwa [List.getD_eq_getElem?_getD] at this
  · have := hy (i - xs.length); unfold rd at this; rwa [List.getD_eq_getElem?_getD] at this
theorem bokT_mem {xs : List Int} (h : ∀ x ∈ xs, 0 ≤ x ∧ x < 256) : bytesOk xs := fun i => by
  unfold rd
  rw [List.getD_eq_getElem?_getD]
  cases hx : xs[i]? with
  | none => simp
  | some x => exact h x (List.mem_of_getElem? hx)
theorem descB_ok (hid : 0 ≤ id ∧ id < 4294967296) (hm : 0 ≤ m ∧ m < 4294967296) (hq : 0 ≤ q ∧ q < 4294967296) (hk : bytesOk k) (hr : bytesOk r) (hb : bytesOk b) : bytesOk (descB id m q k r b) :=
  bokT_append (bokT_append (bokT_append (bokT_append (bokT_append (bokT_mem (le4_bytes id hid)) (bokT_mem (le4_bytes m hm))) (bokT_mem (le4_bytes q hq))) hk) hr) hb
end
end Go.Proofs.YtlikinglgegclaaGreatDoor
/- The law DescSays. -/
namespace Go.Proofs.YtlikinglgegclaaGreatDoor
open Go.RowKit Go.Cour
theorem builtSeqM (A : Option Addr) (n c : Nat) : Tryz.prog.built 34 [(0, .slice A n c)] = some #[.slice A n c, .int .i64 0] := by kernel_rfl
theorem guardDescM : Tryz.prog.eqGuardType Tryz.prog.depth 27 = false := by kernel_rfl
theorem bin_toM {P : Program} {ops : Array Oper} {rest : List Oper} {o : Oper} {a : Act} {w : World} {Q : Exit → Act → World → Prop} (hw : Region.wanted o (yielded ops a.tmps) = true) (op : BinOp) (t t' : TypeId) (x y : Operand) (ho : o.op = .binOp op t x y t') (xs ys : Array Value)
    (hx : a.eval x = .agg xs) (hy : a.eval y = .agg ys) (hm : P.eqGuardType P.depth t = false) (r : Value) (hr : ∀ w, (binOp op t (.agg xs) (.agg ys)).run P w = .ok r w) (d : Option Tmp) (hd : o.dst = d) (h : wpList P ops Q rest (a.put d r) w) : wpList P ops Q (o :: rest) a w := by
  subst hd
  refine wpList_step fun K hK => ?_
  rw [if_pos hw]
  unfold Oper.wp execOp
  have hg := run_eqGuard_agg (P := P) w op t x y xs ys hm
  simp only [ho, hx, hy]
  simp [hg, hr]
  exact hK _ _ h
/-- A desc's cells, whatever they are. -/
def IsDesc (D : List Value) : Prop := ∃ (id m q : Int) (k r b : List Int), D = descC id m q k r b ∧ k.length = 32 ∧ r.length = 32 ∧ b.length = 32
theorem IsDesc.length {D : List Value} (h : IsDesc D) : D.length = 99 := by
  obtain ⟨id, m, q, k, r, b, rfl, h1, h2, h3⟩ := h
  exact descC_length h1 h2 h3
theorem IsDesc.one {D : List Value} (h : IsDesc D) : ∀ v ∈ D, v.oneCell' = true := by
  obtain ⟨id, m, q, k, r, b, rfl, h1, h2, h3⟩ := h
  exact descC_one _ _ _ _ _ _
theorem IsDesc.neq {D : List Value} (h : IsDesc D) (w : World) : (binOp .neq 27 (.agg D.toArray) (.agg D.toArray)).run Tryz.prog w = .ok (.bool false) w := by
  obtain ⟨id, m, q, k, r, b, rfl, h1, h2, h3⟩ := h
  exact desc_neq id m q k r b h1 h2 h3 w
theorem IsDesc.eql {D : List Value} (h : IsDesc D) (w : World) : (binOp .eql 27 (.agg D.toArray) (.agg D.toArray)).run Tryz.prog w = .ok (.bool true) w := by
  obtain ⟨id, m, q, k, r, b, rfl, h1, h2, h3⟩ := h
  exact desc_eql id m q k r b h1 h2 h3 w
theorem isDesc_zero : IsDesc zeroD := ⟨0, 0, 0, _, _, _, rfl, by simp, by simp, by simp⟩
theorem isDesc_read (xs : List Int) : IsDesc (readD xs).1 := by
  unfold readD
  split
  · exact isDesc_zero
  · split
    · exact isDesc_zero
    · split
      · exact isDesc_zero
      · exact ⟨_, _, _, _, _, _, rfl, by rw [List.length_take, List.length_drop]; omega, by rw [List.length_take, List.length_drop]; omega, by rw [List.length_take, List.length_drop]; omega⟩
theorem infoFM : (Tryz.prog.info? 44).map (·.size) = some 3 := by kernel_rfl
theorem undLBytes : Tryz.prog.underlying 38 = some (.slice 29) := by kernel_rfl
theorem sizeBytesM9 : (Tryz.prog.info? 29).map (·.size) = some 1 := by kernel_rfl
theorem zeroBytesM9 : (((Tryz.prog.info? 29).bind (·.zero)).map (·.cells.size)) = some 1 := by kernel_rfl
/-- Where a desc's chunks are: both tell the same. -/
theorem place_both (D : List Value) (m q N : Nat) (i : Int) (hl : D.length = 99) (h1 : D[1]? = some (.int .u32 (m : Int))) (h2 : D[2]? = some (.int .u32 (q : Int))) (hm : m ≤ 1000) (hq : 1 ≤ q ∧ q ≤ 1000) (hN : countI m q = (N : Int)) (hN2 : N ≤ 1000) :
    ∃ p n : Int, (∀ w, Calls Tryz.prog 12 #[.agg D.toArray, .int .i64 i] w fun e w' => e = .returned (.tuple #[.int .i64 p, .int .i64 n]) ∧ Below w.heap.size w w') ∧ (∀ w, Calls Tryz.prog 13 #[.agg D.toArray, .int .i64 i] w fun e w' => e = .returned (.tuple #[.int .i64 p, .int .i64 n]) ∧ Below w.heap.size w w') := by
  by_cases hi : i < 0 ∨ (N : Int) ≤ i
  · exact ⟨0, 0, fun w => dplace_out D m q N i w hl h1 h2 hm hq.2 hN hN2 hi, fun w => place16_out D m q N i w hl h1 h2 hm hq.2 hN hN2 hi⟩
  · obtain ⟨j, rfl⟩ : ∃ j : Nat, i = (j : Int) := ⟨i.toNat, by omega⟩
    have hf := (piece_at (List.replicate m (0 : Int)) q N hq.1 (by rw [List.length_replicate]; exact hN) j (by omega)).1
    rw [List.length_replicate] at hf
    exact ⟨_, _, fun w => dplace_calls D m q N j (j * q) _ _ w hl h1 h2 hm hq.2 hN hN2 (by omega) rfl hf rfl rfl, fun w => place16_calls D m q N j (j * q) _ _ w hl h1 h2 hm hq.2 hN hN2 (by omega) rfl hf rfl rfl⟩
/-- What is made of a file: both make the same. -/
theorem make_both (key xs : List Int) (id q : Int) (m : Nat) (hk : key.length = 32) (rk : bytesOk key) (rx : bytesOk xs) (hm : xs.length = m) (hi : 0 ≤ id ∧ id < 4294967296) :
    ∃ (D : List Value) (bl : List Int), IsDesc D ∧ bl.length ≤ 1000000 ∧
      (∀ (A : Option Addr) (c : Nat) (w : World), (A = none → c = 0) → m ≤ c → Rd w A .u8 xs → Calls Tryz.prog 15 #[.int .u32 id, .slice A m c, .int .i64 q, .agg (ints .u8 key).toArray] w fun e w' => ∃ v, e = .returned (.tuple #[.agg D.toArray, v]) ∧ HS NoF w w' [.os 5 v (ints .u8 bl)]) ∧
      (∀ (A : Option Addr) (c : Nat) (w : World), (A = none → c = 0) → m ≤ c → Rd w A .u8 xs → Calls Tryz.prog 16 #[.int .u32 id, .slice A m c, .int .i64 q, .agg (ints .u8 key).toArray] w fun e w' => ∃ v, e = .returned (.tuple #[.agg D.toArray, v]) ∧ HS NoF w w' [.os 5 v (ints .u8 bl)]) := by
  by_cases hbad : 600 < m ∨ q < 1 ∨ 64 < q
  · have hz : ∀ {w w' : World}, Below w.heap.size w w' → HS NoF w w' [.os 5 (.slice none 0 0) (ints .u8 [])] := fun hB => ((HS.start NoF _).below hB).take _ (OwnS.nil _ _) (fun k hk => by cases hk) (fun f hf => by cases hf)
    refine ⟨zeroD, [], isDesc_zero, by simp, fun A c w _ _ _ => (makeP_out key id q A m c w hbad).mono ?_, fun A c w _ _ _ => (make16_out key id q A m c w hbad).mono ?_⟩
    · rintro e w' ⟨rfl, hB⟩; exact ⟨_, rfl, hz hB⟩
    · rintro e w' ⟨rfl, hB⟩; exact ⟨_, rfl, hz hB⟩
  · obtain ⟨k, rfl⟩ : ∃ k : Nat, q = (k : Int) := ⟨q.toNat, by omega⟩
    have hp : ∀ {w w' : World} {v : Value} {bl : List Int}, OwnS w' 5 v (ints .u8 bl) → (∀ k, v.ownBlock = some k → w.heap.size ≤ k) → Below w.heap.size w w' → HS NoF w w' [.os 5 v (ints .u8 bl)] := fun ho hn hB => (HS.start NoF _).push hB _ ho hn
    refine ⟨descC id m k key (rootOf (hashesOf (allTexts key xs k))) (shaOf (blobOf (allTexts key xs k))), blobOf (allTexts key xs k), ⟨_, _, _, _, _, _, rfl, hk, (rootF_H32 _ _ (hashesOf_H32 _)).1, shaOf_length _⟩, ?_, fun A c w hA hc hr => (makeP_calls key xs id k A m c w hk rk rx hm hA hc hr (by omega) (by omega) hi).mono ?_, fun A c w hA hc hr => (make16_calls key xs id k A m c w hk rk rx hm hA hc hr (by omega) (by omega) hi).mono ?_⟩
    · have hb := countI_bounds xs.length k
      rw [blob_len key xs k (countI xs.length k).toNat (by omega) (by omega)]
      omega
    · rintro e w' ⟨v, rfl, ho, hn, hB⟩; exact ⟨v, rfl, hp ho hn hB⟩
    · rintro e w' ⟨v, rfl, ho, hn, hB⟩; exact ⟨v, rfl, hp ho hn hB⟩
theorem bits_u8_boundM (op : BinOp) (x y : Int) : 0 ≤ bits op .u8 x y ∧ bits op .u8 x y < 256 := by
  unfold bits
  rw [IntKind.wrap_u8]
  exact ⟨Int.emod_nonneg _ (by decide), Int.emod_lt_of_pos _ (by decide)⟩
theorem bokM_set {xs : List Int} (h : bytesOk xs) (i : Nat) (x : Int) (h0 : 0 ≤ x ∧ x < 256) : bytesOk (xs.set i x) := fun j => by
  rw [rd_set']
  split
  · exact h0
  · exact h j
set_option maxHeartbeats 16000000 in
set_option maxRecDepth 100000 in
theorem descSays_calls (rid rm rq : Int) (rk rr rb : List Int) (ls bx : List Int) (A B : Option Addr) (n c mb cb : Nat) (at_ by_ size chunk i : Int) {w : World} {P : Nat → Addr} (hE : Errs w P)
    (hrid : 0 ≤ rid ∧ rid < 4294967296) (hrm : 0 ≤ rm ∧ rm < 4294967296) (hrq : 0 ≤ rq ∧ rq < 4294967296) (hrk : rk.length = 32) (hrr : rr.length = 32) (hrb : rb.length = 32) (okk : bytesOk rk)
    (hl : ls.length = n) (hr : Rd w A .i64 ls) (hbl : bx.length = mb) (hbr : Rd w B .u8 bx) (hbn : B = none → cb = 0) (hbc : mb ≤ cb) (hbo : bytesOk bx) (hby : 0 ≤ by_ ∧ by_ < 256) :
    Calls Tryz.prog 3 #[.agg (descC rid rm rq rk rr rb).toArray, .slice A n c, .slice B mb cb, .int .i64 at_, .int .u8 by_, .int .i64 size, .int .i64 chunk, .int .i64 i] w fun e w' => e = .returned (.bool true) ∧ Below w.heap.size w w' := by
  have hS := HS.start NoF w
  have HE := hid hE
  have HL := hid hl
  have HR := hid hr
  have HBL := hid hbl
  have HBR := hid hbr
  have HBN := hid hbn
  have HBO := hid hbo
  have hnn := nil_neqD
  have HWL := hid (descC_length (id := rid) (m := rm) (q := rq) hrk hrr hrb)
  have HW1 := hid (descC_one rid rm rq rk rr rb)
  have HW0 : Hd ((descC rid rm rq rk rr rb)[0]? = some (.int .u32 rid)) := hid rfl
  have HWK := hid (descC_E3 (id := rid) (m := rm) (q := rq) (k := rk) (r := rr) (b := rb))
  have HWB := hid fun w => dbytes_calls rid rm rq rk rr rb w hrid hrm hrq hrk hrr hrb
  have HW16 := hid fun w => desc16_calls rid rm rq rk rr rb w hrid hrm hrq hrk hrr hrb
  have HWBL := hid (descB_length (id := rid) (m := rm) (q := rq) hrk hrr hrb)
  have HRKL := hid hrk
  obtain ⟨zm, hzm⟩ : ∃ k : Nat, rm = (k : Int) := ⟨rm.toNat, by omega⟩
  obtain ⟨zq, hzq⟩ : ∃ k : Nat, rq = (k : Int) := ⟨rq.toNat, by omega⟩
  have HWI1 : Hd ((descC rid rm rq rk rr rb)[1]? = some (.int .u32 (zm : Int))) := hid (by rw [← hzm]; rfl)
  have HWI2 : Hd ((descC rid rm rq rk rr rb)[2]? = some (.int .u32 (zq : Int))) := hid (by rw [← hzq]; rfl)
  have HMB := hid fun (xs : List Int) (q : Int) (m : Nat) (rx : bytesOk xs) (hm : xs.length = m) => make_both rk xs rid q m hrk okk rx hm hrid
  obtain ⟨DW, hDW⟩ : ∃ D, descC rid rm rq rk rr rb = D := ⟨_, rfl⟩
  obtain ⟨bw, hbw⟩ : ∃ b, descB rid rm rq rk rr rb = b := ⟨_, rfl⟩
  simp only [hDW, hbw] at HWB HW16
  rw [hDW] at HWL HW1 HW0 HWK HWI1 HWI2 ⊢
  rw [hbw] at HWBL
  clear hDW hbw hzm hzq hrid hrm hrq hrk hrr hrb okk hE hl hr hbl hbr hbn hbo
  by_cases h20 : 20 < n
  · go_enter Tryz.func3, Tryz.ntmps3
    go_wp2_with (first
      | (refine box_blk rfl 27 _ rfl _ rfl DW rfl ?_; intro gw w0 hga hba hBa hsa; replace hS : HS NoF w w0 [.blk gw 27 DW] := hS.pushBlk hBa hba hga; clear hga hba hBa hsa)
      | (go_at_call 4; refine (first19_calls (HE.out.below hS.bel)).mono ?_; rintro e w1 ⟨rfl, hB⟩; replace hS : HS NoF w w1 [.blk gw 27 DW] := hS.below hB; clear hB)
      | fail)
    go_ret
    exact ⟨rfl, hS.bel⟩
  by_cases h200 : 200 < mb
  · go_enter Tryz.func3, Tryz.ntmps3
    go_wp2_with (first
      | (refine box_blk rfl 27 _ rfl _ rfl DW rfl ?_; intro gw w0 hga hba hBa hsa; replace hS : HS NoF w w0 [.blk gw 27 DW] := hS.pushBlk hBa hba hga; clear hga hba hBa hsa)
      | (go_at_call 4; refine (first19_calls (HE.out.below hS.bel)).mono ?_; rintro e w1 ⟨rfl, hB⟩; replace hS : HS NoF w w1 [.blk gw 27 DW] := hS.below hB; clear hB)
      | fail)
    go_ret
    exact ⟨rfl, hS.bel⟩
  go_enter Tryz.func3, Tryz.ntmps3
  go_wp2_with (first
    | (refine box_blk rfl 27 _ rfl _ rfl DW rfl ?_; intro gw w0 hga hba hBa hsa; replace hS : HS NoF w w0 [.blk gw 27 DW] := hS.pushBlk hBa hba hga; clear hga hba hBa hsa)
    | (go_at_call 4; refine (first19_calls (HE.out.below hS.bel)).mono ?_; rintro e w1 ⟨rfl, hB⟩; replace hS : HS NoF w w1 [.blk gw 27 DW] := hS.below hB; clear hB)
    | (refine build_to rfl 34 _ rfl #[.slice A n c, .int .i64 0] (by rw [Array.toList_map]; exact builtSeqM _ _ _) ?_)
    | (refine box_blk rfl 34 _ rfl _ rfl (seqC (.slice A n c) (0 : Nat)) rfl ?_; intro gs w2 hga hba hBa hsa; replace hS : HS NoF w w2 [.blk gs 34 (seqC (.slice A n c) (0 : Nat)), .blk gw 27 DW] := hS.pushBlk hBa hba hga; clear hga hba hBa hsa)
    | fail)
  have hgs : ∀ ad, A = some ad → ls ≠ [] → ad.block ≠ gs := fun ad ha hne he => by
    obtain ⟨g, o, h⟩ := HR.out.at (List.length_pos_iff.2 hne)
    rw [ha] at h
    injection h with h
    have h1 := HR.out
    rw [ha, h] at h1
    have h2 := lt_of_cell (h1.cellAt 0 (List.length_pos_iff.2 hne))
    have h3 := hS.own _ (List.mem_cons_self ..) gs rfl
    subst h
    simp at he
    rcases h3 with h3 | h3
    · exact h3
    · omega
  refine (mdesc_calls gs n c A ls _ (hS.blk 0 rfl) HL.out (hS.oldRd HR.out (fun _ _ _ h => h)) hgs).mono ?_
  rintro e w3 ⟨id, m, q, K, RT, SH, rfl, hid1, hm1, hq1, hq2, ⟨hK, rK⟩, ⟨hRT, rRT⟩, ⟨hSH, rSH⟩, hq⟩
  replace hS : HS NoF w w3 [.blk gw 27 DW] := HS.call (A := [.blk gs 34 (seqC (.slice A n c) (0 : Nat))]) hS hq (fun k h => ⟨_, List.mem_singleton.2 rfl, h⟩)
  clear hq hgs HR HL h20
  have HDL := Go.Cour.hid (descC_length (id := (id : Int)) (m := (m : Int)) (q := (q : Int)) hK hRT hSH)
  have HD1 := Go.Cour.hid (descC_one (id : Int) (m : Int) (q : Int) K RT SH)
  have H16 := Go.Cour.hid fun w => desc16_calls (id : Int) (m : Int) (q : Int) K RT SH w (by omega) (by omega) (by omega) hK hRT hSH
  have HCL := Go.Cour.hid (descB_length (id := (id : Int)) (m := (m : Int)) (q := (q : Int)) hK hRT hSH)
  have HCO := Go.Cour.hid (descB_ok (id := (id : Int)) (m := (m : Int)) (q := (q : Int)) (by omega) (by omega) (by omega) rK rRT rSH)
  have HI1 : Hd ((descC (id : Int) (m : Int) (q : Int) K RT SH)[1]? = some (.int .u32 (m : Int))) := Go.Cour.hid rfl
  have HI2 : Hd ((descC (id : Int) (m : Int) (q : Int) K RT SH)[2]? = some (.int .u32 (q : Int))) := Go.Cour.hid rfl
  obtain ⟨D, hD⟩ : ∃ D, descC (id : Int) (m : Int) (q : Int) K RT SH = D := ⟨_, rfl⟩
  obtain ⟨cs, hcs⟩ : ∃ b, descB (id : Int) (m : Int) (q : Int) K RT SH = b := ⟨_, rfl⟩
  simp only [hD, hcs] at H16
  rw [hD] at HDL HD1 HI1 HI2 ⊢
  rw [hcs] at HCL HCO
  clear hD hcs hK rK hRT rRT hSH rSH
  have HZD := Go.Cour.hid zeroDesc
  have HZL := Go.Cour.hid zeroD_length
  obtain ⟨D0, hD0⟩ : ∃ D0, zeroD = D0 := ⟨_, rfl⟩
  rw [hD0] at HZD HZL
  clear hD0
  go_wp2_with (first
      | (refine alloc_blk rfl 27 rfl _ rfl D0 HZD.out ?_; intro gd w_gd hga hba hBa hsa; replace hS : HS NoF w w_gd [.blk gd 27 D0, .blk gw 27 DW] := hS.pushBlk hBa hba hga; clear hga hba hBa hsa)
      | (refine hs_storeW hS 0 rfl rfl 27 _ _ rfl rfl D rfl HD1.out 99 sizeDesc HDL.out HZL.out _ rfl ?_; clear hS; intro w_A1 hS; replace hS : HS NoF w w_A1 [.blk gd 27 D, .blk gw 27 DW] := hS)
      | (refine hs_loadW hS 0 rfl rfl 27 _ rfl rfl 99 sizeDesc HDL.out _ undDesc.choose_spec rfl _ rfl ?_)
      | (go_at_call 6; refine (H16.out _).mono ?_; rintro e w_c ⟨Ac, nc, cc, rfl, hq⟩; have hnc := (hq.os 0 rfl).len.1; rw [ints_length, HCL.out] at hnc; subst hnc; replace hS : HS NoF w w_c [.os 5 (.slice Ac 108 cc) (ints .u8 cs), .blk gd 27 D, .blk gw 27 DW] := HS.call (A := []) hS hq (fun _ h => h.elim); clear hq)
      | (go_at_call 7; refine (bytes_calls cs Ac cc 108 _ HCL.out.symm ((hS.os 0 rfl).rd rfl) (by omega)).mono ?_; rintro e w_e ⟨ve, rfl, ho, hB⟩; obtain ⟨Ae, ce, he, hce, _, _⟩ := ho.slice; rw [HCL.out] at he hce; subst he; replace hS : HS NoF w w_e [.os 5 (.slice Ae 108 ce) (ints .u8 cs), .os 5 (.slice Ac 108 cc) (ints .u8 cs), .blk gd 27 D, .blk gw 27 DW] := hS.pushOwn hB ho; clear ho hB)
      | fail)
  refine (numQ_calls at_ 108 _ (by omega) (by omega)).mono ?_
  rintro e w_k ⟨k, hk, rfl, hw⟩
  subst hw
  replace hk : k < 108 := by omega
  obtain ⟨gv, ov, cv', hv, hcv⟩ := (hS.os 0 rfl).lies 108 (by rw [ints_length]; exact HCL.out) (by omega)
  injection hv with hv1 hv2 hv3
  subst hv1 hv3
  have ck := hcv k _ (ints_get _ _ k (by rw [HCL.out]; exact hk))
  clear hcv
  obtain ⟨x, hx⟩ : ∃ x, bits .xor .u8 (rd cs k) by_ = x := ⟨_, rfl⟩
  have hxb : 0 ≤ x ∧ x < 256 := by rw [← hx]; exact bits_u8_boundM _ _ _
  have HXO : Hd (bytesOk (cs.set k x)) := Go.Cour.hid (bokM_set HCO.out k x hxb)
  have HXL : Hd ((cs.set k x).length = 108) := Go.Cour.hid (by rw [List.length_set]; exact HCL.out)
  obtain ⟨es, hes⟩ : ∃ es, Hd (cs.set k x = es) := ⟨_, Go.Cour.hid rfl⟩
  rw [hes.out] at HXO HXL
  go_wp2_with (first
      | (refine hs_storeS hS 0 rfl rfl 5 _ _ rfl k rfl (.int .u8 x) (by rw [← hx]; rfl) rfl sizeU8W (by rw [ints_length, HCL.out]; exact hk) _ rfl ?_; clear hS; intro w_x hS; rw [ints_set, hes.out] at hS; replace hS : HS NoF w w_x [.os 5 (.slice (some ⟨gv, ov, none⟩) 108 ce) (ints .u8 es), .os 5 (.slice Ac 108 cc) (ints .u8 cs), .blk gd 27 D, .blk gw 27 DW] := hS)
      | (refine hs_lit3 hS rfl 38 29 _ _ _ rfl undLBytes sizeBytesM9 zeroBytesM9 (.slice B mb cb) (.slice Ac 108 cc) (.slice (some ⟨gv, ov, none⟩) 108 ce) rfl rfl rfl rfl rfl rfl _ rfl ?_; clear hS; intro ga w_a hga hBa hS; clear hga hBa; replace hS : HS NoF w w_a [.os 29 (.slice (some ⟨ga, 0, none⟩) 3 3) [.slice B mb cb, .slice Ac 108 cc, .slice (some ⟨gv, ov, none⟩) 108 ce], .os 5 (.slice (some ⟨gv, ov, none⟩) 108 ce) (ints .u8 es), .os 5 (.slice Ac 108 cc) (ints .u8 cs), .blk gd 27 D, .blk gw 27 DW] := hS)
      | fail)
  clear ck hx
  go_loopg [23] 4 (fun kq v23 wr => ∃ j : Nat, j ≤ 3 ∧ v23 = .int .i64 j ∧ Hd (kq + j = 4) ∧ HS NoF w wr [.os 29 (.slice (some ⟨ga, 0, none⟩) 3 3) [.slice B mb cb, .slice Ac 108 cc, .slice (some ⟨gv, ov, none⟩) 108 ce], .os 5 (.slice (some ⟨gv, ov, none⟩) 108 ce) (ints .u8 es), .os 5 (.slice Ac 108 cc) (ints .u8 cs), .blk gd 27 D, .blk gw 27 DW])
  case atStart => exact ⟨0, by omega, rfl, Go.Cour.hid rfl, hS⟩
  case round =>
    clear hS
    obtain ⟨j, hj, rfl, hkq, hS⟩ := hrel
    by_cases hlt : j < 3
    · have hcell : ∃ (Aj : Option Addr) (mj cj : Nat) (xj : List Int), wr.cell? ⟨ga, j, none⟩ = some (.slice Aj mj cj) ∧ xj.length = mj ∧ bytesOk xj ∧ (Aj = none → cj = 0) ∧ Rd wr Aj .u8 xj ∧ mj ≤ cj ∧ mj ≤ 200 := by
        obtain ⟨g', o', c', hv, hcv⟩ := (hS.os 0 rfl).lies 3 rfl (by omega)
        injection hv with hv1 hv2 hv3
        injection hv1 with hv1
        injection hv1 with hv1 hv4
        subst hv1 hv4
        have hc := hcv j
        rw [Nat.zero_add] at hc
        rcases (by omega : j = 0 ∨ j = 1 ∨ j = 2) with rfl | rfl | rfl
        · exact ⟨B, mb, cb, bx, hc _ rfl, HBL.out, HBO.out, HBN.out, hS.oldRd HBR.out (fun _ _ _ h => h), hbc, by omega⟩
        · exact ⟨Ac, 108, cc, cs, hc _ rfl, HCL.out, HCO.out, (hS.os 2 rfl).len.2.2.2, (hS.os 2 rfl).rd rfl, (hS.os 2 rfl).len.2.1, by omega⟩
        · exact ⟨some ⟨gv, ov, none⟩, 108, ce, es, hc _ rfl, HXL.out, HXO.out, (fun h => by cases h), (hS.os 1 rfl).rd rfl, (hS.os 1 rfl).len.2.1, by omega⟩
      obtain ⟨Aj, mj, cj, xj, hc, hxj, hokj, hAj, hrj, hcj, hmj⟩ := hcell
      have HC := Go.Cour.hid hc
      have HXJ := Go.Cour.hid hxj
      have HOJ := Go.Cour.hid hokj
      have HAJ := Go.Cour.hid hAj
      have HRJ := Go.Cour.hid hrj
      clear hxj hokj hAj hrj
      have hj3 : (j : Int) < 3 := by omega
      have hH := HS.start NoF wr
      go_wp2_with fail
      refine (dread_calls xj Aj mj cj (HE.out.below hS.bel) HXJ.out HOJ.out HAJ.out HRJ.out (by omega)).mono ?_
      rintro e w_p ⟨er, rfl, hq⟩
      have HI := Go.Cour.hid (isDesc_read xj)
      have HR16 := Go.Cour.hid fun w h => rdesc16_calls xj Aj mj cj w HXJ.out HOJ.out HAJ.out h hcj (by omega)
      obtain ⟨rD, rc, rp, rn, hrd⟩ : ∃ a b c d, readD xj = (a, b, c, d) := ⟨_, _, _, _, rfl⟩
      rw [hrd] at HI hq ⊢
      simp only [hrd] at HR16
      dsimp only at HI hq HR16 ⊢
      clear hrd
      have HIL := Go.Cour.hid HI.out.length
      have HI1' := Go.Cour.hid HI.out.one
      have HIN := Go.Cour.hid HI.out.neq
      replace hH : HS NoF wr w_p [tellsE P er rc rp rn] := hq
      clear hq
      replace hc : w_p.cell? ⟨ga, j, none⟩ = _ := hH.oldCell HC.out (fun h => h)
      go_wp2_with (first
          | (refine alloc_blk rfl 27 rfl _ rfl D0 HZD.out ?_; intro gx w_gx hga hba hBa hsa; replace hH : HS NoF wr w_gx [.blk gx 27 D0, tellsE P er rc rp rn] := hH.pushBlk hBa hba hga; replace hc : w_gx.cell? ⟨ga, j, none⟩ = _ := hH.oldCell HC.out (fun h => h); clear hga hba hBa hsa)
          | (refine hs_storeW hH 0 rfl rfl 27 _ _ rfl rfl rD rfl HI1'.out 99 sizeDesc HIL.out HZL.out _ rfl ?_; clear hH; intro w_B1 hH; replace hH : HS NoF wr w_B1 [.blk gx 27 rD, tellsE P er rc rp rn] := hH; replace hc : w_B1.cell? ⟨ga, j, none⟩ = _ := hH.oldCell HC.out (fun h => h))
          | fail)
      refine (HR16.out _ (hH.oldRd HRJ.out (fun _ _ _ h => h))).mono ?_
      rintro e w_r ⟨rfl, hB⟩
      replace hH : HS NoF wr w_r [.blk gx 27 rD, tellsE P er rc rp rn] := hH.below hB
      clear hB hc
      go_wp2_with (first
          | (refine alloc_blk rfl 27 rfl _ rfl D0 HZD.out ?_; intro gy w_gy hga hba hBa hsa; replace hH : HS NoF wr w_gy [.blk gy 27 D0, .blk gx 27 rD, tellsE P er rc rp rn] := hH.pushBlk hBa hba hga; clear hga hba hBa hsa)
          | (refine alloc_blk rfl 44 rfl _ rfl (faultC 0 false 0) zeroF ?_; intro gf w_gf hga hba hBa hsa; replace hH : HS NoF wr w_gf [.blk gf 44 (faultC 0 false 0), .blk gy 27 D0, .blk gx 27 rD, tellsE P er rc rp rn] := hH.pushBlk hBa hba hga; clear hga hba hBa hsa)
          | (refine hs_storeW hH 1 rfl rfl 27 _ _ rfl rfl rD rfl HI1'.out 99 sizeDesc HIL.out HZL.out _ rfl ?_; clear hH; intro w_B2 hH; replace hH : HS NoF wr w_B2 [.blk gf 44 (faultC 0 false 0), .blk gy 27 rD, .blk gx 27 rD, tellsE P er rc rp rn] := hH)
          | (refine hs_storeW hH 0 rfl rfl 44 _ _ rfl rfl (faultC rc rp rn) rfl (by simp [faultC, Value.oneCell']) 3 infoFM rfl rfl _ rfl ?_; clear hH; intro w_B3 hH; replace hH : HS NoF wr w_B3 [.blk gf 44 (faultC rc rp rn), .blk gy 27 rD, .blk gx 27 rD, tellsE P er rc rp rn] := hH)
          | (refine hs_loadW hH 2 rfl rfl 27 _ rfl rfl 99 sizeDesc HIL.out _ undDesc.choose_spec rfl _ rfl ?_)
          | (refine hs_loadW hH 1 rfl rfl 27 _ rfl rfl 99 sizeDesc HIL.out _ undDesc.choose_spec rfl _ rfl ?_)
          | (refine bin_toM rfl _ _ _ _ _ rfl rD.toArray rD.toArray rfl rfl guardDescM (.bool false) HIN.out _ rfl ?_)
          | (refine hs_loadW hH 0 rfl rfl 44 _ rfl rfl 3 infoFM rfl _ undF.choose_spec rfl _ rfl ?_)
          | (go_at_call 11; refine (sameT_calls ((HE.out.below hS.bel).below hH.bel) (HS_tells hH 3 rfl) rc rn rp).mono ?_; rintro e w_B4 ⟨rfl, hB⟩; rw [show (rc == rc && rp == rp && rn == rn) = true by simp]; replace hH : HS NoF wr w_B4 [.blk gf 44 (faultC rc rp rn), .blk gy 27 rD, .blk gx 27 rD, tellsE P er rc rp rn] := hH.below hB; clear hB)
          | fail)
      go_roundg (gk - 1)
      case measure => have := hkq.out; omega
      case rel => exact ⟨j + 1, by omega, by go_num, Go.Cour.hid (by have := hkq.out; omega), hS.below hH.bel⟩
    · obtain rfl : j = 3 := by omega
      replace hS : HS NoF w wr [.blk gd 27 D, .blk gw 27 DW] := (((hS.erase 0).erase 0).erase 0)
      clear HCL HCO HXO HXL hes
      go_wp2_with fail
      refine (numQ_calls i 210 _ (by omega) (by omega)).mono ?_
      rintro e w_i ⟨ki, hki, rfl, hw⟩
      subst hw
      obtain ⟨iz, hiz⟩ : ∃ iz : Int, (ki : Int) - 5 = iz := ⟨_, rfl⟩
      obtain ⟨N, hN⟩ : ∃ N : Nat, Hd (countI m q = (N : Int)) := ⟨(countI m q).toNat, Go.Cour.hid (by have := (countI_bounds m q).1; omega)⟩
      have hNb : 1 ≤ N ∧ N ≤ 200 := by have := countI_bounds m q; have := hN.out; omega
      obtain ⟨pp, pn, hpl1, hpl2⟩ := place_both D m q N iz HDL.out HI1.out HI2.out (by omega) (by omega) hN.out (by omega)
      have HP1 := Go.Cour.hid hpl1
      have HP2 := Go.Cour.hid hpl2
      clear hpl1 hpl2
      go_wp2_with (first
          | (refine hs_loadW hS 0 rfl rfl 27 _ rfl rfl 99 sizeDesc HDL.out _ undDesc.choose_spec rfl _ rfl ?_)
          | (go_at_call 12; refine (HP1.out _).mono ?_; rintro e w_p1 ⟨rfl, hB⟩; replace hS : HS NoF w w_p1 [.blk gd 27 D, .blk gw 27 DW] := hS.below hB; clear hB)
          | (go_at_call 13; refine (HP2.out _).mono ?_; rintro e w_p2 ⟨rfl, hB⟩; replace hS : HS NoF w w_p2 [.blk gd 27 D, .blk gw 27 DW] := hS.below hB; clear hB)
          | fail)
      refine (numQ_calls size 700 _ (by omega) (by omega)).mono ?_
      rintro e w_s ⟨sz, hsz, rfl, hw⟩
      subst hw
      go_wp2_with fail
      refine (numQ_calls chunk 70 _ (by omega) (by omega)).mono ?_
      rintro e w_h ⟨kc, hkc, rfl, hw⟩
      subst hw
      obtain ⟨ch, hch⟩ : ∃ ch : Int, (kc : Int) - 2 = ch := ⟨_, rfl⟩
      go_wp2_with (first
          | (go_at_call 14; refine (file_calls at_ sz _ (by omega)).mono ?_; rintro e w_f ⟨vf, rfl, ho, hB⟩; obtain ⟨Af, cf, hf, hcf, _, _⟩ := ho.slice; rw [fileTo_length] at hf hcf; subst hf; replace hS := hS.pushOwn hB ho; clear ho hB; obtain ⟨Du, bl, hDu, hblb, hmk1, hmk2⟩ := HMB.out (fileTo at_ sz) ch sz (fileTo_ok at_ sz) (fileTo_length at_ sz); have HM1 := Go.Cour.hid hmk1; have HM2 := Go.Cour.hid hmk2; clear hmk1 hmk2; obtain ⟨fx, hfx⟩ : ∃ fx, fileTo at_ sz = fx := ⟨_, rfl⟩; rw [hfx] at hS HM1 HM2; clear hfx; replace hS : HS NoF w w_f [.os 5 (.slice Af sz cf) (ints .u8 fx), .blk gd 27 D, .blk gw 27 DW] := hS; have HUL := Go.Cour.hid hDu.length; have HU1 := Go.Cour.hid hDu.one; have HUE := Go.Cour.hid hDu.eql; have cw : w_f.cell? ⟨gw, 0, none⟩ = _ := (hS.cell 2 rfl 0).trans HW0.out)
          | (refine hs_loadN hS 2 rfl rfl 24 _ rfl 3 rfl (ints .u8 rk) HWK.out 32 infoKeyD (by rw [ints_length]; exact HRKL.out) _ arrKeyD rfl _ rfl ?_)
          | fail)
      refine (HM1.out Af cf _ (hS.os 0 rfl).len.2.2.2 (hS.os 0 rfl).len.2.1 ((hS.os 0 rfl).rd rfl)).mono ?_
      rintro e w_m ⟨vm, rfl, hq⟩
      obtain ⟨Av, cv, hvm, _⟩ := (hq.os 0 rfl).parts
      rw [ints_length] at hvm
      subst hvm
      obtain ⟨nv, hnv⟩ : ∃ nv, Hd (bl.length = nv) := ⟨_, Go.Cour.hid rfl⟩
      rw [hnv.out] at hq ⊢
      replace hS : HS NoF w w_m [.os 5 (.slice Av nv cv) (ints .u8 bl), .os 5 (.slice Af sz cf) (ints .u8 fx), .blk gd 27 D, .blk gw 27 DW] := HS.call (A := []) hS hq (fun _ h => h.elim)
      clear hq cw
      have cw : w_m.cell? ⟨gw, 0, none⟩ = _ := (hS.cell 3 rfl 0).trans HW0.out
      go_wp2_with (first
          | (refine alloc_blk rfl 27 rfl _ rfl D0 HZD.out ?_; intro gu w_gu hga hba hBa hsa; replace hS : HS NoF w w_gu [.blk gu 27 D0, .os 5 (.slice Av nv cv) (ints .u8 bl), .os 5 (.slice Af sz cf) (ints .u8 fx), .blk gd 27 D, .blk gw 27 DW] := hS.pushBlk hBa hba hga; clear hga hba hBa hsa; clear cw)
          | (refine hs_storeW hS 0 rfl rfl 27 _ _ rfl rfl Du rfl HU1.out 99 sizeDesc HUL.out HZL.out _ rfl ?_; clear hS; intro w_U1 hS; replace hS : HS NoF w w_U1 [.blk gu 27 Du, .os 5 (.slice Av nv cv) (ints .u8 bl), .os 5 (.slice Af sz cf) (ints .u8 fx), .blk gd 27 D, .blk gw 27 DW] := hS; have cw : w_U1.cell? ⟨gw, 0, none⟩ = _ := (hS.cell 4 rfl 0).trans HW0.out)
          | (refine hs_loadN hS 4 rfl rfl 24 _ rfl 3 rfl (ints .u8 rk) HWK.out 32 infoKeyD (by rw [ints_length]; exact HRKL.out) _ arrKeyD rfl _ rfl ?_)
          | fail)
      refine (HM2.out Af cf _ (hS.os 2 rfl).len.2.2.2 (hS.os 2 rfl).len.2.1 ((hS.os 2 rfl).rd rfl)).mono ?_
      rintro e w_z ⟨vz, rfl, hq⟩
      obtain ⟨Az, cz, hvz, _⟩ := (hq.os 0 rfl).parts
      rw [ints_length, hnv.out] at hvz
      subst hvz
      replace hS : HS NoF w w_z [.os 5 (.slice Az nv cz) (ints .u8 bl), .blk gu 27 Du, .os 5 (.slice Av nv cv) (ints .u8 bl), .os 5 (.slice Af sz cf) (ints .u8 fx), .blk gd 27 D, .blk gw 27 DW] := HS.call (A := []) hS hq (fun _ h => h.elim)
      clear hq cw
      go_wp2_with (first
          | (refine alloc_blk rfl 27 rfl _ rfl D0 HZD.out ?_; intro gz w_gz hga hba hBa hsa; replace hS : HS NoF w w_gz [.blk gz 27 D0, .os 5 (.slice Az nv cz) (ints .u8 bl), .blk gu 27 Du, .os 5 (.slice Av nv cv) (ints .u8 bl), .os 5 (.slice Af sz cf) (ints .u8 fx), .blk gd 27 D, .blk gw 27 DW] := hS.pushBlk hBa hba hga; clear hga hba hBa hsa)
          | (refine hs_storeW hS 0 rfl rfl 27 _ _ rfl rfl Du rfl HU1.out 99 sizeDesc HUL.out HZL.out _ rfl ?_; clear hS; intro w_Z1 hS; replace hS : HS NoF w w_Z1 [.blk gz 27 Du, .os 5 (.slice Az nv cz) (ints .u8 bl), .blk gu 27 Du, .os 5 (.slice Av nv cv) (ints .u8 bl), .os 5 (.slice Af sz cf) (ints .u8 fx), .blk gd 27 D, .blk gw 27 DW] := hS)
          | fail)
      by_cases hgood : zm ≤ 600 ∧ 1 ≤ zq ∧ zq ≤ 64
      · have HGD : Hd (decide (zm ≤ 600 ∧ 1 ≤ zq ∧ zq ≤ 64) = true) := Go.Cour.hid (decide_eq_true hgood)
        have hee := nil_nil
        try go_wp2_with fail
        refine wp_region_S (F := NoF) (w0 := w) (L0 := [.blk gz 27 Du, .os 5 (.slice Az nv cz) (ints .u8 bl), .blk gu 27 Du, .os 5 (.slice Av nv cv) (ints .u8 bl), .os 5 (.slice Af sz cf) (ints .u8 fx), .blk gd 27 D, .blk gw 27 DW]) [3, 6, 11, 13, 28, 30] [14, 41]
          (fun iK u E => match iK with
            | 3 => u = .nilIface ∧ E = []
            | 6 => u = .bool true ∧ E = []
            | 11 => E = [.os 5 u (ints .u8 bw)] ∧ ∃ A c, u = .slice A 108 c
            | 13 => E = [.os 5 u (ints .u8 bw)] ∧ ∃ A c, u = .slice A 108 c
            | 28 => u = .int .i64 ((N : Int) * 48 + m) ∧ E = []
            | 30 => u = .int .i64 ((N : Int) * 48 + m) ∧ E = []
            | _ => False)
          ([]) (by kernel_rfl) (by kernel_rfl) hS ?_
        show wpS _ _ _ _ _ _ _ _ _ _ [0, 1, 2, 3, 4, 5, 6, 7, 8, 9, 10, 11, 12, 13, 14, 15, 16, 17, 18, 19, 20, 21, 22, 23, 24, 25, 26, 27, 28, 29, 30, 31, 32, 33, 34, 35, 36, 37, 38, 39, 40, 41, 42, 43] _
        apply wpS_read (i := 0) rfl rfl ⟨_, hS⟩ rfl
        · intro w' hT'
          simp only [getElem_toArray, getElem_cons_zero, getElem_cons_succ]
          go_wp2_with fail
          first | exact ⟨rfl, rfl, rfl⟩ | rfl
        apply wpS_read (i := 1) rfl rfl ⟨_, hS⟩ rfl
        · intro w' hT'
          simp only [getElem_toArray, getElem_cons_zero, getElem_cons_succ]
          go_wp2_with fail
          first | exact ⟨rfl, rfl, rfl⟩ | rfl
        apply wpS_read (i := 2) rfl rfl ⟨_, hS⟩ rfl
        · intro w' hT'
          simp only [getElem_toArray, getElem_cons_zero, getElem_cons_succ]
          go_wp2_with (first
            | (refine hs_loadW hT' 6 rfl rfl 27 _ rfl rfl 99 sizeDesc HWL.out _ undDesc.choose_spec rfl _ rfl ?_)
            | (refine hs_loadW hT' 5 rfl rfl 27 _ rfl rfl 99 sizeDesc HDL.out _ undDesc.choose_spec rfl _ rfl ?_)
            | (refine hs_loadW hT' 0 rfl rfl 27 _ rfl rfl 99 sizeDesc HUL.out _ undDesc.choose_spec rfl _ rfl ?_)
            | (refine hs_loadW hT' 2 rfl rfl 27 _ rfl rfl 99 sizeDesc HUL.out _ undDesc.choose_spec rfl _ rfl ?_)
            | (refine bin_toM rfl _ _ _ _ _ rfl Du.toArray Du.toArray rfl rfl guardDescM (.bool true) HUE.out _ rfl ?_)
            | fail)
          first | exact ⟨rfl, rfl, rfl⟩ | rfl
        refine wpS_soft (i := 3) rfl rfl rfl (Nat.le_of_ble_eq_true rfl) ?_ ?_
        · intro w' hT
          simp only [getElem_toArray, getElem_cons_zero, getElem_cons_succ]
          go_wp2_with (first
            | (go_at_call 17; refine (dcheck_ok DW zm zq _ HWI1.out HWI2.out (by omega) (by omega)).mono ?_; rintro e w6 ⟨rfl, hB⟩)
            | fail)
          exact SoftP.mk' (.nilIface) ([]) rfl (⟨rfl, rfl⟩) (hT.below hB) (hB) (fun _ h => by cases h)
        intro u3 E3 hK3
        obtain ⟨rfl, rfl⟩ := hK3
        simp only [Act.put, List.setIfInBounds_toArray, List.set_cons_zero, List.set_cons_succ]
        apply wpS_read (i := 4) rfl rfl ⟨_, hS⟩ rfl
        · intro w' hT'
          simp only [getElem_toArray, getElem_cons_zero, getElem_cons_succ]
          go_wp2_with (first
            | (refine hs_loadW hT' 6 rfl rfl 27 _ rfl rfl 99 sizeDesc HWL.out _ undDesc.choose_spec rfl _ rfl ?_)
            | (refine hs_loadW hT' 5 rfl rfl 27 _ rfl rfl 99 sizeDesc HDL.out _ undDesc.choose_spec rfl _ rfl ?_)
            | (refine hs_loadW hT' 0 rfl rfl 27 _ rfl rfl 99 sizeDesc HUL.out _ undDesc.choose_spec rfl _ rfl ?_)
            | (refine hs_loadW hT' 2 rfl rfl 27 _ rfl rfl 99 sizeDesc HUL.out _ undDesc.choose_spec rfl _ rfl ?_)
            | (refine bin_toM rfl _ _ _ _ _ rfl Du.toArray Du.toArray rfl rfl guardDescM (.bool true) HUE.out _ rfl ?_)
            | fail)
          first | exact ⟨rfl, rfl, rfl⟩ | rfl
        apply wpS_read (i := 5) rfl rfl ⟨_, hS⟩ rfl
        · intro w' hT'
          simp only [getElem_toArray, getElem_cons_zero, getElem_cons_succ]
          go_wp2_with (first
            | (refine hs_loadW hT' 6 rfl rfl 27 _ rfl rfl 99 sizeDesc HWL.out _ undDesc.choose_spec rfl _ rfl ?_)
            | (refine hs_loadW hT' 5 rfl rfl 27 _ rfl rfl 99 sizeDesc HDL.out _ undDesc.choose_spec rfl _ rfl ?_)
            | (refine hs_loadW hT' 0 rfl rfl 27 _ rfl rfl 99 sizeDesc HUL.out _ undDesc.choose_spec rfl _ rfl ?_)
            | (refine hs_loadW hT' 2 rfl rfl 27 _ rfl rfl 99 sizeDesc HUL.out _ undDesc.choose_spec rfl _ rfl ?_)
            | (refine bin_toM rfl _ _ _ _ _ rfl Du.toArray Du.toArray rfl rfl guardDescM (.bool true) HUE.out _ rfl ?_)
            | fail)
          first | exact ⟨rfl, rfl, rfl⟩ | rfl
        refine wpS_soft (i := 6) rfl rfl rfl (Nat.le_of_ble_eq_true rfl) ?_ ?_
        · intro w' hT
          simp only [getElem_toArray, getElem_cons_zero, getElem_cons_succ]
          go_wp2_with (first
            | (go_at_call 18; refine (good16_calls DW zm zq _ HWI1.out HWI2.out).mono ?_; rintro e w6 ⟨rfl, hB⟩; rw [HGD.out])
            | fail)
          exact SoftP.mk' (.bool true) ([]) rfl (⟨rfl, rfl⟩) (hT.below hB) (hB) (fun _ h => by cases h)
        intro u6 E6 hK6
        obtain ⟨rfl, rfl⟩ := hK6
        simp only [Act.put, List.setIfInBounds_toArray, List.set_cons_zero, List.set_cons_succ]
        apply wpS_read (i := 7) rfl rfl ⟨_, hS⟩ rfl
        · intro w' hT'
          simp only [getElem_toArray, getElem_cons_zero, getElem_cons_succ]
          go_wp2_with (first
            | (refine hs_loadW hT' 6 rfl rfl 27 _ rfl rfl 99 sizeDesc HWL.out _ undDesc.choose_spec rfl _ rfl ?_)
            | (refine hs_loadW hT' 5 rfl rfl 27 _ rfl rfl 99 sizeDesc HDL.out _ undDesc.choose_spec rfl _ rfl ?_)
            | (refine hs_loadW hT' 0 rfl rfl 27 _ rfl rfl 99 sizeDesc HUL.out _ undDesc.choose_spec rfl _ rfl ?_)
            | (refine hs_loadW hT' 2 rfl rfl 27 _ rfl rfl 99 sizeDesc HUL.out _ undDesc.choose_spec rfl _ rfl ?_)
            | (refine bin_toM rfl _ _ _ _ _ rfl Du.toArray Du.toArray rfl rfl guardDescM (.bool true) HUE.out _ rfl ?_)
            | fail)
          first | exact ⟨rfl, rfl, rfl⟩ | rfl
        apply wpS_read (i := 8) rfl rfl ⟨_, hS⟩ rfl
        · intro w' hT'
          simp only [getElem_toArray, getElem_cons_zero, getElem_cons_succ]
          go_wp2_with fail
          first | exact ⟨rfl, rfl, rfl⟩ | rfl
        apply wpS_read (i := 9) rfl rfl ⟨_, hS⟩ rfl
        · intro w' hT'
          simp only [getElem_toArray, getElem_cons_zero, getElem_cons_succ]
          go_wp2_with fail
          first | exact ⟨rfl, rfl, rfl⟩ | rfl
        apply wpS_read (i := 10) rfl rfl ⟨_, hS⟩ rfl
        · intro w' hT'
          simp only [getElem_toArray, getElem_cons_zero, getElem_cons_succ]
          go_wp2_with (first
            | (refine hs_loadW hT' 6 rfl rfl 27 _ rfl rfl 99 sizeDesc HWL.out _ undDesc.choose_spec rfl _ rfl ?_)
            | (refine hs_loadW hT' 5 rfl rfl 27 _ rfl rfl 99 sizeDesc HDL.out _ undDesc.choose_spec rfl _ rfl ?_)
            | (refine hs_loadW hT' 0 rfl rfl 27 _ rfl rfl 99 sizeDesc HUL.out _ undDesc.choose_spec rfl _ rfl ?_)
            | (refine hs_loadW hT' 2 rfl rfl 27 _ rfl rfl 99 sizeDesc HUL.out _ undDesc.choose_spec rfl _ rfl ?_)
            | (refine bin_toM rfl _ _ _ _ _ rfl Du.toArray Du.toArray rfl rfl guardDescM (.bool true) HUE.out _ rfl ?_)
            | fail)
          first | exact ⟨rfl, rfl, rfl⟩ | rfl
        refine wpS_soft (i := 11) rfl rfl rfl (Nat.le_of_ble_eq_true rfl) ?_ ?_
        · intro w' hT
          simp only [getElem_toArray, getElem_cons_zero, getElem_cons_succ]
          go_wp2_with (first
            | (go_at_call 20; refine (HWB.out _).mono ?_; rintro e w6 ⟨v, rfl, ho, hB⟩; obtain ⟨Ab, cb', hvb, _⟩ := ho.os.parts; rw [ints_length, HWBL.out] at hvb; subst hvb)
            | fail)
          exact SoftP.mk' (.slice Ab 108 cb') ([.os 5 (.slice Ab 108 cb') (ints .u8 bw)]) rfl (⟨rfl, Ab, cb', rfl⟩) (hT.pushOwn hB ho) (hB) (fun e he k hk => by obtain rfl := List.mem_singleton.1 he; exact ho.base_le k hk)
        intro u11 E11 hK11
        obtain ⟨rfl, A1, c1, rfl⟩ := hK11
        simp only [Act.put, List.setIfInBounds_toArray, List.set_cons_zero, List.set_cons_succ]
        apply wpS_read (i := 12) rfl rfl ⟨_, hS⟩ rfl
        · intro w' hT'
          simp only [getElem_toArray, getElem_cons_zero, getElem_cons_succ]
          go_wp2_with (first
            | (refine hs_loadW hT' 6 rfl rfl 27 _ rfl rfl 99 sizeDesc HWL.out _ undDesc.choose_spec rfl _ rfl ?_)
            | (refine hs_loadW hT' 5 rfl rfl 27 _ rfl rfl 99 sizeDesc HDL.out _ undDesc.choose_spec rfl _ rfl ?_)
            | (refine hs_loadW hT' 0 rfl rfl 27 _ rfl rfl 99 sizeDesc HUL.out _ undDesc.choose_spec rfl _ rfl ?_)
            | (refine hs_loadW hT' 2 rfl rfl 27 _ rfl rfl 99 sizeDesc HUL.out _ undDesc.choose_spec rfl _ rfl ?_)
            | (refine bin_toM rfl _ _ _ _ _ rfl Du.toArray Du.toArray rfl rfl guardDescM (.bool true) HUE.out _ rfl ?_)
            | fail)
          first | exact ⟨rfl, rfl, rfl⟩ | rfl
        refine wpS_soft (i := 13) rfl rfl rfl (Nat.le_of_ble_eq_true rfl) ?_ ?_
        · intro w' hT
          simp only [getElem_toArray, getElem_cons_zero, getElem_cons_succ]
          go_wp2_with (first
            | (go_at_call 6; refine (HW16.out _).mono ?_; rintro e w6 ⟨A6, n6, c6, rfl, hq⟩; have hB := hq.bel; have hn6 := (hq.os 0 rfl).len.1; rw [ints_length, HWBL.out] at hn6; subst hn6)
            | fail)
          exact SoftP.mk' (.slice A6 108 c6) ([.os 5 (.slice A6 108 c6) (ints .u8 bw)]) rfl (⟨rfl, A6, c6, rfl⟩) (HS.call (A := []) hT hq (fun _ h => h.elim)) (hB) (fun e he k hk => by rcases hq.own e he k hk with h | h; exact h.elim; exact h)
        intro u13 E13 hK13
        obtain ⟨rfl, A2, c2, rfl⟩ := hK13
        simp only [Act.put, List.setIfInBounds_toArray, List.set_cons_zero, List.set_cons_succ]
        refine wpS_hard (i := 14) rfl rfl ?_
        intro w14 hT
        simp only [getElem_toArray, getElem_cons_zero, getElem_cons_succ]
        go_wp2_with (first
          | (go_at_call 19; refine (same_calls bw bw A1 A2 c1 c2 108 108 _ HWBL.out.symm HWBL.out.symm ((hT.os 1 rfl).rd rfl) ((hT.os 0 rfl).rd rfl) (by rw [HWBL.out]; decide) (by rw [HWBL.out]; decide)).mono ?_; rintro e w6 ⟨rfl, qq, rfl⟩; rw [show decide (bw = bw) = true by simp])
          | fail)
        refine HardP.mk' ([.os 5 (.slice A2 108 c2) (ints .u8 bw), .os 5 (.slice A1 108 c1) (ints .u8 bw)]) rfl ?_ ?_
        · exact hT.drewN qq
        clear hT
        apply wpS_read (i := 15) rfl rfl ⟨_, hS⟩ rfl
        · intro w' hT'
          simp only [getElem_toArray, getElem_cons_zero, getElem_cons_succ]
          go_wp2_with fail
          first | exact ⟨rfl, rfl, rfl⟩ | rfl
        apply wpS_read (i := 16) rfl rfl ⟨_, hS⟩ rfl
        · intro w' hT'
          simp only [getElem_toArray, getElem_cons_zero, getElem_cons_succ]
          go_wp2_with fail
          first | exact ⟨rfl, rfl, rfl⟩ | rfl
        apply wpS_read (i := 17) rfl rfl ⟨_, hS⟩ rfl
        · intro w' hT'
          simp only [getElem_toArray, getElem_cons_zero, getElem_cons_succ]
          go_wp2_with fail
          first | exact ⟨rfl, rfl, rfl⟩ | rfl
        apply wpS_read (i := 18) rfl rfl ⟨_, hS⟩ rfl
        · intro w' hT'
          simp only [getElem_toArray, getElem_cons_zero, getElem_cons_succ]
          go_wp2_with fail
          first | exact ⟨rfl, rfl, rfl⟩ | rfl
        apply wpS_read (i := 19) rfl rfl ⟨_, hS⟩ rfl
        · intro w' hT'
          simp only [getElem_toArray, getElem_cons_zero, getElem_cons_succ]
          go_wp2_with (first
            | (refine hs_loadW hT' 6 rfl rfl 27 _ rfl rfl 99 sizeDesc HWL.out _ undDesc.choose_spec rfl _ rfl ?_)
            | (refine hs_loadW hT' 5 rfl rfl 27 _ rfl rfl 99 sizeDesc HDL.out _ undDesc.choose_spec rfl _ rfl ?_)
            | (refine hs_loadW hT' 0 rfl rfl 27 _ rfl rfl 99 sizeDesc HUL.out _ undDesc.choose_spec rfl _ rfl ?_)
            | (refine hs_loadW hT' 2 rfl rfl 27 _ rfl rfl 99 sizeDesc HUL.out _ undDesc.choose_spec rfl _ rfl ?_)
            | (refine bin_toM rfl _ _ _ _ _ rfl Du.toArray Du.toArray rfl rfl guardDescM (.bool true) HUE.out _ rfl ?_)
            | fail)
          first | exact ⟨rfl, rfl, rfl⟩ | rfl
        apply wpS_read (i := 20) rfl rfl ⟨_, hS⟩ rfl
        · intro w' hT'
          simp only [getElem_toArray, getElem_cons_zero, getElem_cons_succ]
          go_wp2_with fail
          first | exact ⟨rfl, rfl, rfl⟩ | rfl
        apply wpS_read (i := 21) rfl rfl ⟨_, hS⟩ rfl
        · intro w' hT'
          simp only [getElem_toArray, getElem_cons_zero, getElem_cons_succ]
          go_wp2_with fail
          first | exact ⟨rfl, rfl, rfl⟩ | rfl
        apply wpS_read (i := 22) rfl rfl ⟨_, hS⟩ rfl
        · intro w' hT'
          simp only [getElem_toArray, getElem_cons_zero, getElem_cons_succ]
          go_wp2_with fail
          first | exact ⟨rfl, rfl, rfl⟩ | rfl
        apply wpS_read (i := 23) rfl rfl ⟨_, hS⟩ rfl
        · intro w' hT'
          simp only [getElem_toArray, getElem_cons_zero, getElem_cons_succ]
          go_wp2_with fail
          first | exact ⟨rfl, rfl, rfl⟩ | rfl
        apply wpS_read (i := 24) rfl rfl ⟨_, hS⟩ rfl
        · intro w' hT'
          simp only [getElem_toArray, getElem_cons_zero, getElem_cons_succ]
          go_wp2_with (first
            | (refine hs_loadW hT' 6 rfl rfl 27 _ rfl rfl 99 sizeDesc HWL.out _ undDesc.choose_spec rfl _ rfl ?_)
            | (refine hs_loadW hT' 5 rfl rfl 27 _ rfl rfl 99 sizeDesc HDL.out _ undDesc.choose_spec rfl _ rfl ?_)
            | (refine hs_loadW hT' 0 rfl rfl 27 _ rfl rfl 99 sizeDesc HUL.out _ undDesc.choose_spec rfl _ rfl ?_)
            | (refine hs_loadW hT' 2 rfl rfl 27 _ rfl rfl 99 sizeDesc HUL.out _ undDesc.choose_spec rfl _ rfl ?_)
            | (refine bin_toM rfl _ _ _ _ _ rfl Du.toArray Du.toArray rfl rfl guardDescM (.bool true) HUE.out _ rfl ?_)
            | fail)
          first | exact ⟨rfl, rfl, rfl⟩ | rfl
        apply wpS_read (i := 25) rfl rfl ⟨_, hS⟩ rfl
        · intro w' hT'
          simp only [getElem_toArray, getElem_cons_zero, getElem_cons_succ]
          go_wp2_with fail
          first | exact ⟨rfl, rfl, rfl⟩ | rfl
        apply wpS_read (i := 26) rfl rfl ⟨_, hS⟩ rfl
        · intro w' hT'
          simp only [getElem_toArray, getElem_cons_zero, getElem_cons_succ]
          go_wp2_with fail
          first | exact ⟨rfl, rfl, rfl⟩ | rfl
        apply wpS_read (i := 27) rfl rfl ⟨_, hS⟩ rfl
        · intro w' hT'
          simp only [getElem_toArray, getElem_cons_zero, getElem_cons_succ]
          go_wp2_with (first
            | (refine hs_loadW hT' 6 rfl rfl 27 _ rfl rfl 99 sizeDesc HWL.out _ undDesc.choose_spec rfl _ rfl ?_)
            | (refine hs_loadW hT' 5 rfl rfl 27 _ rfl rfl 99 sizeDesc HDL.out _ undDesc.choose_spec rfl _ rfl ?_)
            | (refine hs_loadW hT' 0 rfl rfl 27 _ rfl rfl 99 sizeDesc HUL.out _ undDesc.choose_spec rfl _ rfl ?_)
            | (refine hs_loadW hT' 2 rfl rfl 27 _ rfl rfl 99 sizeDesc HUL.out _ undDesc.choose_spec rfl _ rfl ?_)
            | (refine bin_toM rfl _ _ _ _ _ rfl Du.toArray Du.toArray rfl rfl guardDescM (.bool true) HUE.out _ rfl ?_)
            | fail)
          first | exact ⟨rfl, rfl, rfl⟩ | rfl
        refine wpS_soft (i := 28) rfl rfl rfl (Nat.le_of_ble_eq_true rfl) ?_ ?_
        · intro w' hT
          simp only [getElem_toArray, getElem_cons_zero, getElem_cons_succ]
          go_wp2_with (first
            | (go_at_call 21; refine (dtotal_calls D m q N _ HDL.out HI1.out HI2.out (by omega) (by omega) hN.out (by omega)).mono ?_; rintro e w6 ⟨rfl, hB⟩)
            | fail)
          exact SoftP.mk' (.int .i64 ((N : Int) * 48 + m)) ([]) rfl (⟨rfl, rfl⟩) (hT.below hB) (hB) (fun _ h => by cases h)
        intro u28 E28 hK28
        obtain ⟨rfl, rfl⟩ := hK28
        simp only [Act.put, List.setIfInBounds_toArray, List.set_cons_zero, List.set_cons_succ]
        apply wpS_read (i := 29) rfl rfl ⟨_, hS⟩ rfl
        · intro w' hT'
          simp only [getElem_toArray, getElem_cons_zero, getElem_cons_succ]
          go_wp2_with (first
            | (refine hs_loadW hT' 6 rfl rfl 27 _ rfl rfl 99 sizeDesc HWL.out _ undDesc.choose_spec rfl _ rfl ?_)
            | (refine hs_loadW hT' 5 rfl rfl 27 _ rfl rfl 99 sizeDesc HDL.out _ undDesc.choose_spec rfl _ rfl ?_)
            | (refine hs_loadW hT' 0 rfl rfl 27 _ rfl rfl 99 sizeDesc HUL.out _ undDesc.choose_spec rfl _ rfl ?_)
            | (refine hs_loadW hT' 2 rfl rfl 27 _ rfl rfl 99 sizeDesc HUL.out _ undDesc.choose_spec rfl _ rfl ?_)
            | (refine bin_toM rfl _ _ _ _ _ rfl Du.toArray Du.toArray rfl rfl guardDescM (.bool true) HUE.out _ rfl ?_)
            | fail)
          first | exact ⟨rfl, rfl, rfl⟩ | rfl
        refine wpS_soft (i := 30) rfl rfl rfl (Nat.le_of_ble_eq_true rfl) ?_ ?_
        · intro w' hT
          simp only [getElem_toArray, getElem_cons_zero, getElem_cons_succ]
          go_wp2_with (first
            | (go_at_call 22; refine (total16_calls D m q N _ HDL.out HI1.out HI2.out (by omega) (by omega) hN.out (by omega)).mono ?_; rintro e w6 ⟨rfl, hB⟩; rw [show (m : Int) + 48 * N = (N : Int) * 48 + m by omega])
            | fail)
          exact SoftP.mk' (.int .i64 ((N : Int) * 48 + m)) ([]) rfl (⟨rfl, rfl⟩) (hT.below hB) (hB) (fun _ h => by cases h)
        intro u30 E30 hK30
        obtain ⟨rfl, rfl⟩ := hK30
        simp only [Act.put, List.setIfInBounds_toArray, List.set_cons_zero, List.set_cons_succ]
        apply wpS_read (i := 31) rfl rfl ⟨_, hS⟩ rfl
        · intro w' hT'
          simp only [getElem_toArray, getElem_cons_zero, getElem_cons_succ]
          go_wp2_with (first
            | (refine hs_loadW hT' 6 rfl rfl 27 _ rfl rfl 99 sizeDesc HWL.out _ undDesc.choose_spec rfl _ rfl ?_)
            | (refine hs_loadW hT' 5 rfl rfl 27 _ rfl rfl 99 sizeDesc HDL.out _ undDesc.choose_spec rfl _ rfl ?_)
            | (refine hs_loadW hT' 0 rfl rfl 27 _ rfl rfl 99 sizeDesc HUL.out _ undDesc.choose_spec rfl _ rfl ?_)
            | (refine hs_loadW hT' 2 rfl rfl 27 _ rfl rfl 99 sizeDesc HUL.out _ undDesc.choose_spec rfl _ rfl ?_)
            | (refine bin_toM rfl _ _ _ _ _ rfl Du.toArray Du.toArray rfl rfl guardDescM (.bool true) HUE.out _ rfl ?_)
            | fail)
          first | exact ⟨rfl, rfl, rfl⟩ | rfl
        apply wpS_read (i := 32) rfl rfl ⟨_, hS⟩ rfl
        · intro w' hT'
          simp only [getElem_toArray, getElem_cons_zero, getElem_cons_succ]
          go_wp2_with fail
          first | exact ⟨rfl, rfl, rfl⟩ | rfl
        apply wpS_read (i := 33) rfl rfl ⟨_, hS⟩ rfl
        · intro w' hT'
          simp only [getElem_toArray, getElem_cons_zero, getElem_cons_succ]
          go_wp2_with fail
          first | exact ⟨rfl, rfl, rfl⟩ | rfl
        apply wpS_read (i := 34) rfl rfl ⟨_, hS⟩ rfl
        · intro w' hT'
          simp only [getElem_toArray, getElem_cons_zero, getElem_cons_succ]
          go_wp2_with (first
            | (refine hs_loadW hT' 6 rfl rfl 27 _ rfl rfl 99 sizeDesc HWL.out _ undDesc.choose_spec rfl _ rfl ?_)
            | (refine hs_loadW hT' 5 rfl rfl 27 _ rfl rfl 99 sizeDesc HDL.out _ undDesc.choose_spec rfl _ rfl ?_)
            | (refine hs_loadW hT' 0 rfl rfl 27 _ rfl rfl 99 sizeDesc HUL.out _ undDesc.choose_spec rfl _ rfl ?_)
            | (refine hs_loadW hT' 2 rfl rfl 27 _ rfl rfl 99 sizeDesc HUL.out _ undDesc.choose_spec rfl _ rfl ?_)
            | (refine bin_toM rfl _ _ _ _ _ rfl Du.toArray Du.toArray rfl rfl guardDescM (.bool true) HUE.out _ rfl ?_)
            | fail)
          first | exact ⟨rfl, rfl, rfl⟩ | rfl
        apply wpS_read (i := 35) rfl rfl ⟨_, hS⟩ rfl
        · intro w' hT'
          simp only [getElem_toArray, getElem_cons_zero, getElem_cons_succ]
          go_wp2_with (first
            | (refine hs_loadW hT' 6 rfl rfl 27 _ rfl rfl 99 sizeDesc HWL.out _ undDesc.choose_spec rfl _ rfl ?_)
            | (refine hs_loadW hT' 5 rfl rfl 27 _ rfl rfl 99 sizeDesc HDL.out _ undDesc.choose_spec rfl _ rfl ?_)
            | (refine hs_loadW hT' 0 rfl rfl 27 _ rfl rfl 99 sizeDesc HUL.out _ undDesc.choose_spec rfl _ rfl ?_)
            | (refine hs_loadW hT' 2 rfl rfl 27 _ rfl rfl 99 sizeDesc HUL.out _ undDesc.choose_spec rfl _ rfl ?_)
            | (refine bin_toM rfl _ _ _ _ _ rfl Du.toArray Du.toArray rfl rfl guardDescM (.bool true) HUE.out _ rfl ?_)
            | fail)
          first | exact ⟨rfl, rfl, rfl⟩ | rfl
        apply wpS_read (i := 36) rfl rfl ⟨_, hS⟩ rfl
        · intro w' hT'
          simp only [getElem_toArray, getElem_cons_zero, getElem_cons_succ]
          go_wp2_with (first
            | (refine hs_loadW hT' 6 rfl rfl 27 _ rfl rfl 99 sizeDesc HWL.out _ undDesc.choose_spec rfl _ rfl ?_)
            | (refine hs_loadW hT' 5 rfl rfl 27 _ rfl rfl 99 sizeDesc HDL.out _ undDesc.choose_spec rfl _ rfl ?_)
            | (refine hs_loadW hT' 0 rfl rfl 27 _ rfl rfl 99 sizeDesc HUL.out _ undDesc.choose_spec rfl _ rfl ?_)
            | (refine hs_loadW hT' 2 rfl rfl 27 _ rfl rfl 99 sizeDesc HUL.out _ undDesc.choose_spec rfl _ rfl ?_)
            | (refine bin_toM rfl _ _ _ _ _ rfl Du.toArray Du.toArray rfl rfl guardDescM (.bool true) HUE.out _ rfl ?_)
            | fail)
          first | exact ⟨rfl, rfl, rfl⟩ | rfl
        apply wpS_read (i := 37) rfl rfl ⟨_, hS⟩ rfl
        · intro w' hT'
          simp only [getElem_toArray, getElem_cons_zero, getElem_cons_succ]
          go_wp2_with fail
          first | exact ⟨rfl, rfl, rfl⟩ | rfl
        apply wpS_read (i := 38) rfl rfl ⟨_, hS⟩ rfl
        · intro w' hT'
          simp only [getElem_toArray, getElem_cons_zero, getElem_cons_succ]
          go_wp2_with fail
          first | exact ⟨rfl, rfl, rfl⟩ | rfl
        apply wpS_read (i := 39) rfl rfl ⟨_, hS⟩ rfl
        · intro w' hT'
          simp only [getElem_toArray, getElem_cons_zero, getElem_cons_succ]
          go_wp2_with fail
          first | exact ⟨rfl, rfl, rfl⟩ | rfl
        apply wpS_read (i := 40) rfl rfl ⟨_, hS⟩ rfl
        · intro w' hT'
          simp only [getElem_toArray, getElem_cons_zero, getElem_cons_succ]
          go_wp2_with fail
          first | exact ⟨rfl, rfl, rfl⟩ | rfl
        refine wpS_hard (i := 41) rfl rfl ?_
        intro w41 hT
        simp only [getElem_toArray, getElem_cons_zero, getElem_cons_succ]
        go_wp2_with (first
          | (go_at_call 19; refine (same_calls bl bl Av Az cv cz nv nv _ hnv.out.symm hnv.out.symm ((hT.os 5 rfl).rd rfl) ((hT.os 3 rfl).rd rfl) (by omega) (by omega)).mono ?_; rintro e w6 ⟨rfl, qq, rfl⟩; rw [show decide (bl = bl) = true by simp])
          | fail)
        refine HardP.mk' ([.os 5 (.slice A2 108 c2) (ints .u8 bw), .os 5 (.slice A1 108 c1) (ints .u8 bw)]) rfl ?_ ?_
        · exact hT.drewN qq
        clear hT
        apply wpS_read (i := 42) rfl rfl ⟨_, hS⟩ rfl
        · intro w' hT'
          simp only [getElem_toArray, getElem_cons_zero, getElem_cons_succ]
          go_wp2_with fail
          first | exact ⟨rfl, rfl, rfl⟩ | rfl
        apply wpS_read (i := 43) rfl rfl ⟨_, hS⟩ rfl
        · intro w' hT'
          simp only [getElem_toArray, getElem_cons_zero, getElem_cons_succ]
          go_wp2_with fail
          first | exact ⟨rfl, rfl, rfl⟩ | rfl
        refine wpS_end ?_
        intro wz hT
        try dsimp only
        clear hS
        have hS := hT
        clear hT
        go_wp2_with fail
        go_ret
        exact ⟨rfl, hS.bel⟩
      · have HGD : Hd (decide (zm ≤ 600 ∧ 1 ≤ zq ∧ zq ≤ 64) = false) := Go.Cour.hid (decide_eq_false hgood)
        have hen := fun w => err_nil_right (P 1) w
        have heg := fun op t x y v => eqGuard_err op t x y (P 1) v
        try go_wp2_with fail
        refine wp_region_S (F := NoF) (w0 := w) (L0 := [.blk gz 27 Du, .os 5 (.slice Az nv cz) (ints .u8 bl), .blk gu 27 Du, .os 5 (.slice Av nv cv) (ints .u8 bl), .os 5 (.slice Af sz cf) (ints .u8 fx), .blk gd 27 D, .blk gw 27 DW]) [3, 6, 11, 13, 28, 30] [14, 41]
          (fun iK u E => match iK with
            | 3 => u = errV (P 1) ∧ E = []
            | 6 => u = .bool false ∧ E = []
            | 11 => E = [.os 5 u (ints .u8 bw)] ∧ ∃ A c, u = .slice A 108 c
            | 13 => E = [.os 5 u (ints .u8 bw)] ∧ ∃ A c, u = .slice A 108 c
            | 28 => u = .int .i64 ((N : Int) * 48 + m) ∧ E = []
            | 30 => u = .int .i64 ((N : Int) * 48 + m) ∧ E = []
            | _ => False)
          ([]) (by kernel_rfl) (by kernel_rfl) hS ?_
        show wpS _ _ _ _ _ _ _ _ _ _ [0, 1, 2, 3, 4, 5, 6, 7, 8, 9, 10, 11, 12, 13, 14, 15, 16, 17, 18, 19, 20, 21, 22, 23, 24, 25, 26, 27, 28, 29, 30, 31, 32, 33, 34, 35, 36, 37, 38, 39, 40, 41, 42, 43] _
        apply wpS_read (i := 0) rfl rfl ⟨_, hS⟩ rfl
        · intro w' hT'
          simp only [getElem_toArray, getElem_cons_zero, getElem_cons_succ]
          go_wp2_with fail
          first | exact ⟨rfl, rfl, rfl⟩ | rfl
        apply wpS_read (i := 1) rfl rfl ⟨_, hS⟩ rfl
        · intro w' hT'
          simp only [getElem_toArray, getElem_cons_zero, getElem_cons_succ]
          go_wp2_with fail
          first | exact ⟨rfl, rfl, rfl⟩ | rfl
        apply wpS_read (i := 2) rfl rfl ⟨_, hS⟩ rfl
        · intro w' hT'
          simp only [getElem_toArray, getElem_cons_zero, getElem_cons_succ]
          go_wp2_with (first
            | (refine hs_loadW hT' 6 rfl rfl 27 _ rfl rfl 99 sizeDesc HWL.out _ undDesc.choose_spec rfl _ rfl ?_)
            | (refine hs_loadW hT' 5 rfl rfl 27 _ rfl rfl 99 sizeDesc HDL.out _ undDesc.choose_spec rfl _ rfl ?_)
            | (refine hs_loadW hT' 0 rfl rfl 27 _ rfl rfl 99 sizeDesc HUL.out _ undDesc.choose_spec rfl _ rfl ?_)
            | (refine hs_loadW hT' 2 rfl rfl 27 _ rfl rfl 99 sizeDesc HUL.out _ undDesc.choose_spec rfl _ rfl ?_)
            | (refine bin_toM rfl _ _ _ _ _ rfl Du.toArray Du.toArray rfl rfl guardDescM (.bool true) HUE.out _ rfl ?_)
            | fail)
          first | exact ⟨rfl, rfl, rfl⟩ | rfl
        refine wpS_soft (i := 3) rfl rfl rfl (Nat.le_of_ble_eq_true rfl) ?_ ?_
        · intro w' hT
          simp only [getElem_toArray, getElem_cons_zero, getElem_cons_succ]
          go_wp2_with (first
            | (go_at_call 17; refine (dcheck_bad DW zm zq (HE.out.below hT.bel) HWI1.out HWI2.out (by omega)).mono ?_; rintro e w6 ⟨rfl, hB⟩)
            | fail)
          exact SoftP.mk' (errV (P 1)) ([]) rfl (⟨rfl, rfl⟩) (hT.below hB) (hB) (fun _ h => by cases h)
        intro u3 E3 hK3
        obtain ⟨rfl, rfl⟩ := hK3
        simp only [Act.put, List.setIfInBounds_toArray, List.set_cons_zero, List.set_cons_succ]
        apply wpS_read (i := 4) rfl rfl ⟨_, hS⟩ rfl
        · intro w' hT'
          simp only [getElem_toArray, getElem_cons_zero, getElem_cons_succ]
          go_wp2_with (first
            | (refine hs_loadW hT' 6 rfl rfl 27 _ rfl rfl 99 sizeDesc HWL.out _ undDesc.choose_spec rfl _ rfl ?_)
            | (refine hs_loadW hT' 5 rfl rfl 27 _ rfl rfl 99 sizeDesc HDL.out _ undDesc.choose_spec rfl _ rfl ?_)
            | (refine hs_loadW hT' 0 rfl rfl 27 _ rfl rfl 99 sizeDesc HUL.out _ undDesc.choose_spec rfl _ rfl ?_)
            | (refine hs_loadW hT' 2 rfl rfl 27 _ rfl rfl 99 sizeDesc HUL.out _ undDesc.choose_spec rfl _ rfl ?_)
            | (refine bin_toM rfl _ _ _ _ _ rfl Du.toArray Du.toArray rfl rfl guardDescM (.bool true) HUE.out _ rfl ?_)
            | fail)
          first | exact ⟨rfl, rfl, rfl⟩ | rfl
        apply wpS_read (i := 5) rfl rfl ⟨_, hS⟩ rfl
        · intro w' hT'
          simp only [getElem_toArray, getElem_cons_zero, getElem_cons_succ]
          go_wp2_with (first
            | (refine hs_loadW hT' 6 rfl rfl 27 _ rfl rfl 99 sizeDesc HWL.out _ undDesc.choose_spec rfl _ rfl ?_)
            | (refine hs_loadW hT' 5 rfl rfl 27 _ rfl rfl 99 sizeDesc HDL.out _ undDesc.choose_spec rfl _ rfl ?_)
            | (refine hs_loadW hT' 0 rfl rfl 27 _ rfl rfl 99 sizeDesc HUL.out _ undDesc.choose_spec rfl _ rfl ?_)
            | (refine hs_loadW hT' 2 rfl rfl 27 _ rfl rfl 99 sizeDesc HUL.out _ undDesc.choose_spec rfl _ rfl ?_)
            | (refine bin_toM rfl _ _ _ _ _ rfl Du.toArray Du.toArray rfl rfl guardDescM (.bool true) HUE.out _ rfl ?_)
            | fail)
          first | exact ⟨rfl, rfl, rfl⟩ | rfl
        refine wpS_soft (i := 6) rfl rfl rfl (Nat.le_of_ble_eq_true rfl) ?_ ?_
        · intro w' hT
          simp only [getElem_toArray, getElem_cons_zero, getElem_cons_succ]
          go_wp2_with (first
            | (go_at_call 18; refine (good16_calls DW zm zq _ HWI1.out HWI2.out).mono ?_; rintro e w6 ⟨rfl, hB⟩; rw [HGD.out])
            | fail)
          exact SoftP.mk' (.bool false) ([]) rfl (⟨rfl, rfl⟩) (hT.below hB) (hB) (fun _ h => by cases h)
        intro u6 E6 hK6
        obtain ⟨rfl, rfl⟩ := hK6
        simp only [Act.put, List.setIfInBounds_toArray, List.set_cons_zero, List.set_cons_succ]
        apply wpS_read (i := 7) rfl rfl ⟨_, hS⟩ rfl
        · intro w' hT'
          simp only [getElem_toArray, getElem_cons_zero, getElem_cons_succ]
          go_wp2_with (first
            | (refine hs_loadW hT' 6 rfl rfl 27 _ rfl rfl 99 sizeDesc HWL.out _ undDesc.choose_spec rfl _ rfl ?_)
            | (refine hs_loadW hT' 5 rfl rfl 27 _ rfl rfl 99 sizeDesc HDL.out _ undDesc.choose_spec rfl _ rfl ?_)
            | (refine hs_loadW hT' 0 rfl rfl 27 _ rfl rfl 99 sizeDesc HUL.out _ undDesc.choose_spec rfl _ rfl ?_)
            | (refine hs_loadW hT' 2 rfl rfl 27 _ rfl rfl 99 sizeDesc HUL.out _ undDesc.choose_spec rfl _ rfl ?_)
            | (refine bin_toM rfl _ _ _ _ _ rfl Du.toArray Du.toArray rfl rfl guardDescM (.bool true) HUE.out _ rfl ?_)
            | fail)
          first | exact ⟨rfl, rfl, rfl⟩ | rfl
        apply wpS_read (i := 8) rfl rfl ⟨_, hS⟩ rfl
        · intro w' hT'
          simp only [getElem_toArray, getElem_cons_zero, getElem_cons_succ]
          go_wp2_with fail
          first | exact ⟨rfl, rfl, rfl⟩ | rfl
        apply wpS_read (i := 9) rfl rfl ⟨_, hS⟩ rfl
        · intro w' hT'
          simp only [getElem_toArray, getElem_cons_zero, getElem_cons_succ]
          go_wp2_with fail
          first | exact ⟨rfl, rfl, rfl⟩ | rfl
        apply wpS_read (i := 10) rfl rfl ⟨_, hS⟩ rfl
        · intro w' hT'
          simp only [getElem_toArray, getElem_cons_zero, getElem_cons_succ]
          go_wp2_with (first
            | (refine hs_loadW hT' 6 rfl rfl 27 _ rfl rfl 99 sizeDesc HWL.out _ undDesc.choose_spec rfl _ rfl ?_)
            | (refine hs_loadW hT' 5 rfl rfl 27 _ rfl rfl 99 sizeDesc HDL.out _ undDesc.choose_spec rfl _ rfl ?_)
            | (refine hs_loadW hT' 0 rfl rfl 27 _ rfl rfl 99 sizeDesc HUL.out _ undDesc.choose_spec rfl _ rfl ?_)
            | (refine hs_loadW hT' 2 rfl rfl 27 _ rfl rfl 99 sizeDesc HUL.out _ undDesc.choose_spec rfl _ rfl ?_)
            | (refine bin_toM rfl _ _ _ _ _ rfl Du.toArray Du.toArray rfl rfl guardDescM (.bool true) HUE.out _ rfl ?_)
            | fail)
          first | exact ⟨rfl, rfl, rfl⟩ | rfl
        refine wpS_soft (i := 11) rfl rfl rfl (Nat.le_of_ble_eq_true rfl) ?_ ?_
        · intro w' hT
          simp only [getElem_toArray, getElem_cons_zero, getElem_cons_succ]
          go_wp2_with (first
            | (go_at_call 20; refine (HWB.out _).mono ?_; rintro e w6 ⟨v, rfl, ho, hB⟩; obtain ⟨Ab, cb', hvb, _⟩ := ho.os.parts; rw [ints_length, HWBL.out] at hvb; subst hvb)
            | fail)
          exact SoftP.mk' (.slice Ab 108 cb') ([.os 5 (.slice Ab 108 cb') (ints .u8 bw)]) rfl (⟨rfl, Ab, cb', rfl⟩) (hT.pushOwn hB ho) (hB) (fun e he k hk => by obtain rfl := List.mem_singleton.1 he; exact ho.base_le k hk)
        intro u11 E11 hK11
        obtain ⟨rfl, A1, c1, rfl⟩ := hK11
        simp only [Act.put, List.setIfInBounds_toArray, List.set_cons_zero, List.set_cons_succ]
        apply wpS_read (i := 12) rfl rfl ⟨_, hS⟩ rfl
        · intro w' hT'
          simp only [getElem_toArray, getElem_cons_zero, getElem_cons_succ]
          go_wp2_with (first
            | (refine hs_loadW hT' 6 rfl rfl 27 _ rfl rfl 99 sizeDesc HWL.out _ undDesc.choose_spec rfl _ rfl ?_)
            | (refine hs_loadW hT' 5 rfl rfl 27 _ rfl rfl 99 sizeDesc HDL.out _ undDesc.choose_spec rfl _ rfl ?_)
            | (refine hs_loadW hT' 0 rfl rfl 27 _ rfl rfl 99 sizeDesc HUL.out _ undDesc.choose_spec rfl _ rfl ?_)
            | (refine hs_loadW hT' 2 rfl rfl 27 _ rfl rfl 99 sizeDesc HUL.out _ undDesc.choose_spec rfl _ rfl ?_)
            | (refine bin_toM rfl _ _ _ _ _ rfl Du.toArray Du.toArray rfl rfl guardDescM (.bool true) HUE.out _ rfl ?_)
            | fail)
          first | exact ⟨rfl, rfl, rfl⟩ | rfl
        refine wpS_soft (i := 13) rfl rfl rfl (Nat.le_of_ble_eq_true rfl) ?_ ?_
        · intro w' hT
          simp only [getElem_toArray, getElem_cons_zero, getElem_cons_succ]
          go_wp2_with (first
            | (go_at_call 6; refine (HW16.out _).mono ?_; rintro e w6 ⟨A6, n6, c6, rfl, hq⟩; have hB := hq.bel; have hn6 := (hq.os 0 rfl).len.1; rw [ints_length, HWBL.out] at hn6; subst hn6)
            | fail)
          exact SoftP.mk' (.slice A6 108 c6) ([.os 5 (.slice A6 108 c6) (ints .u8 bw)]) rfl (⟨rfl, A6, c6, rfl⟩) (HS.call (A := []) hT hq (fun _ h => h.elim)) (hB) (fun e he k hk => by rcases hq.own e he k hk with h | h; exact h.elim; exact h)
        intro u13 E13 hK13
        obtain ⟨rfl, A2, c2, rfl⟩ := hK13
        simp only [Act.put, List.setIfInBounds_toArray, List.set_cons_zero, List.set_cons_succ]
        refine wpS_hard (i := 14) rfl rfl ?_
        intro w14 hT
        simp only [getElem_toArray, getElem_cons_zero, getElem_cons_succ]
        go_wp2_with (first
          | (go_at_call 19; refine (same_calls bw bw A1 A2 c1 c2 108 108 _ HWBL.out.symm HWBL.out.symm ((hT.os 1 rfl).rd rfl) ((hT.os 0 rfl).rd rfl) (by rw [HWBL.out]; decide) (by rw [HWBL.out]; decide)).mono ?_; rintro e w6 ⟨rfl, qq, rfl⟩; rw [show decide (bw = bw) = true by simp])
          | fail)
        refine HardP.mk' ([.os 5 (.slice A2 108 c2) (ints .u8 bw), .os 5 (.slice A1 108 c1) (ints .u8 bw)]) rfl ?_ ?_
        · exact hT.drewN qq
        clear hT
        apply wpS_read (i := 15) rfl rfl ⟨_, hS⟩ rfl
        · intro w' hT'
          simp only [getElem_toArray, getElem_cons_zero, getElem_cons_succ]
          go_wp2_with fail
          first | exact ⟨rfl, rfl, rfl⟩ | rfl
        apply wpS_read (i := 16) rfl rfl ⟨_, hS⟩ rfl
        · intro w' hT'
          simp only [getElem_toArray, getElem_cons_zero, getElem_cons_succ]
          go_wp2_with fail
          first | exact ⟨rfl, rfl, rfl⟩ | rfl
        apply wpS_read (i := 17) rfl rfl ⟨_, hS⟩ rfl
        · intro w' hT'
          simp only [getElem_toArray, getElem_cons_zero, getElem_cons_succ]
          go_wp2_with fail
          first | exact ⟨rfl, rfl, rfl⟩ | rfl
        apply wpS_read (i := 18) rfl rfl ⟨_, hS⟩ rfl
        · intro w' hT'
          simp only [getElem_toArray, getElem_cons_zero, getElem_cons_succ]
          go_wp2_with fail
          first | exact ⟨rfl, rfl, rfl⟩ | rfl
        apply wpS_read (i := 19) rfl rfl ⟨_, hS⟩ rfl
        · intro w' hT'
          simp only [getElem_toArray, getElem_cons_zero, getElem_cons_succ]
          go_wp2_with (first
            | (refine hs_loadW hT' 6 rfl rfl 27 _ rfl rfl 99 sizeDesc HWL.out _ undDesc.choose_spec rfl _ rfl ?_)
            | (refine hs_loadW hT' 5 rfl rfl 27 _ rfl rfl 99 sizeDesc HDL.out _ undDesc.choose_spec rfl _ rfl ?_)
            | (refine hs_loadW hT' 0 rfl rfl 27 _ rfl rfl 99 sizeDesc HUL.out _ undDesc.choose_spec rfl _ rfl ?_)
            | (refine hs_loadW hT' 2 rfl rfl 27 _ rfl rfl 99 sizeDesc HUL.out _ undDesc.choose_spec rfl _ rfl ?_)
            | (refine bin_toM rfl _ _ _ _ _ rfl Du.toArray Du.toArray rfl rfl guardDescM (.bool true) HUE.out _ rfl ?_)
            | fail)
          first | exact ⟨rfl, rfl, rfl⟩ | rfl
        apply wpS_read (i := 20) rfl rfl ⟨_, hS⟩ rfl
        · intro w' hT'
          simp only [getElem_toArray, getElem_cons_zero, getElem_cons_succ]
          go_wp2_with fail
          first | exact ⟨rfl, rfl, rfl⟩ | rfl
        apply wpS_read (i := 21) rfl rfl ⟨_, hS⟩ rfl
        · intro w' hT'
          simp only [getElem_toArray, getElem_cons_zero, getElem_cons_succ]
          go_wp2_with fail
          first | exact ⟨rfl, rfl, rfl⟩ | rfl
        apply wpS_read (i := 22) rfl rfl ⟨_, hS⟩ rfl
        · intro w' hT'
          simp only [getElem_toArray, getElem_cons_zero, getElem_cons_succ]
          go_wp2_with fail
          first | exact ⟨rfl, rfl, rfl⟩ | rfl
        apply wpS_read (i := 23) rfl rfl ⟨_, hS⟩ rfl
        · intro w' hT'
          simp only [getElem_toArray, getElem_cons_zero, getElem_cons_succ]
          go_wp2_with fail
          first | exact ⟨rfl, rfl, rfl⟩ | rfl
        apply wpS_read (i := 24) rfl rfl ⟨_, hS⟩ rfl
        · intro w' hT'
          simp only [getElem_toArray, getElem_cons_zero, getElem_cons_succ]
          go_wp2_with (first
            | (refine hs_loadW hT' 6 rfl rfl 27 _ rfl rfl 99 sizeDesc HWL.out _ undDesc.choose_spec rfl _ rfl ?_)
            | (refine hs_loadW hT' 5 rfl rfl 27 _ rfl rfl 99 sizeDesc HDL.out _ undDesc.choose_spec rfl _ rfl ?_)
            | (refine hs_loadW hT' 0 rfl rfl 27 _ rfl rfl 99 sizeDesc HUL.out _ undDesc.choose_spec rfl _ rfl ?_)
            | (refine hs_loadW hT' 2 rfl rfl 27 _ rfl rfl 99 sizeDesc HUL.out _ undDesc.choose_spec rfl _ rfl ?_)
            | (refine bin_toM rfl _ _ _ _ _ rfl Du.toArray Du.toArray rfl rfl guardDescM (.bool true) HUE.out _ rfl ?_)
            | fail)
          first | exact ⟨rfl, rfl, rfl⟩ | rfl
        apply wpS_read (i := 25) rfl rfl ⟨_, hS⟩ rfl
        · intro w' hT'
          simp only [getElem_toArray, getElem_cons_zero, getElem_cons_succ]
          go_wp2_with fail
          first | exact ⟨rfl, rfl, rfl⟩ | rfl
        apply wpS_read (i := 26) rfl rfl ⟨_, hS⟩ rfl
        · intro w' hT'
          simp only [getElem_toArray, getElem_cons_zero, getElem_cons_succ]
          go_wp2_with fail
          first | exact ⟨rfl, rfl, rfl⟩ | rfl
        apply wpS_read (i := 27) rfl rfl ⟨_, hS⟩ rfl
        · intro w' hT'
          simp only [getElem_toArray, getElem_cons_zero, getElem_cons_succ]
          go_wp2_with (first
            | (refine hs_loadW hT' 6 rfl rfl 27 _ rfl rfl 99 sizeDesc HWL.out _ undDesc.choose_spec rfl _ rfl ?_)
            | (refine hs_loadW hT' 5 rfl rfl 27 _ rfl rfl 99 sizeDesc HDL.out _ undDesc.choose_spec rfl _ rfl ?_)
            | (refine hs_loadW hT' 0 rfl rfl 27 _ rfl rfl 99 sizeDesc HUL.out _ undDesc.choose_spec rfl _ rfl ?_)
            | (refine hs_loadW hT' 2 rfl rfl 27 _ rfl rfl 99 sizeDesc HUL.out _ undDesc.choose_spec rfl _ rfl ?_)
            | (refine bin_toM rfl _ _ _ _ _ rfl Du.toArray Du.toArray rfl rfl guardDescM (.bool true) HUE.out _ rfl ?_)
            | fail)
          first | exact ⟨rfl, rfl, rfl⟩ | rfl
        refine wpS_soft (i := 28) rfl rfl rfl (Nat.le_of_ble_eq_true rfl) ?_ ?_
        · intro w' hT
          simp only [getElem_toArray, getElem_cons_zero, getElem_cons_succ]
          go_wp2_with (first
            | (go_at_call 21; refine (dtotal_calls D m q N _ HDL.out HI1.out HI2.out (by omega) (by omega) hN.out (by omega)).mono ?_; rintro e w6 ⟨rfl, hB⟩)
            | fail)
          exact SoftP.mk' (.int .i64 ((N : Int) * 48 + m)) ([]) rfl (⟨rfl, rfl⟩) (hT.below hB) (hB) (fun _ h => by cases h)
        intro u28 E28 hK28
        obtain ⟨rfl, rfl⟩ := hK28
        simp only [Act.put, List.setIfInBounds_toArray, List.set_cons_zero, List.set_cons_succ]
        apply wpS_read (i := 29) rfl rfl ⟨_, hS⟩ rfl
        · intro w' hT'
          simp only [getElem_toArray, getElem_cons_zero, getElem_cons_succ]
          go_wp2_with (first
            | (refine hs_loadW hT' 6 rfl rfl 27 _ rfl rfl 99 sizeDesc HWL.out _ undDesc.choose_spec rfl _ rfl ?_)
            | (refine hs_loadW hT' 5 rfl rfl 27 _ rfl rfl 99 sizeDesc HDL.out _ undDesc.choose_spec rfl _ rfl ?_)
            | (refine hs_loadW hT' 0 rfl rfl 27 _ rfl rfl 99 sizeDesc HUL.out _ undDesc.choose_spec rfl _ rfl ?_)
            | (refine hs_loadW hT' 2 rfl rfl 27 _ rfl rfl 99 sizeDesc HUL.out _ undDesc.choose_spec rfl _ rfl ?_)
            | (refine bin_toM rfl _ _ _ _ _ rfl Du.toArray Du.toArray rfl rfl guardDescM (.bool true) HUE.out _ rfl ?_)
            | fail)
          first | exact ⟨rfl, rfl, rfl⟩ | rfl
        refine wpS_soft (i := 30) rfl rfl rfl (Nat.le_of_ble_eq_true rfl) ?_ ?_
        · intro w' hT
          simp only [getElem_toArray, getElem_cons_zero, getElem_cons_succ]
          go_wp2_with (first
            | (go_at_call 22; refine (total16_calls D m q N _ HDL.out HI1.out HI2.out (by omega) (by omega) hN.out (by omega)).mono ?_; rintro e w6 ⟨rfl, hB⟩; rw [show (m : Int) + 48 * N = (N : Int) * 48 + m by omega])
            | fail)
          exact SoftP.mk' (.int .i64 ((N : Int) * 48 + m)) ([]) rfl (⟨rfl, rfl⟩) (hT.below hB) (hB) (fun _ h => by cases h)
        intro u30 E30 hK30
        obtain ⟨rfl, rfl⟩ := hK30
        simp only [Act.put, List.setIfInBounds_toArray, List.set_cons_zero, List.set_cons_succ]
        apply wpS_read (i := 31) rfl rfl ⟨_, hS⟩ rfl
        · intro w' hT'
          simp only [getElem_toArray, getElem_cons_zero, getElem_cons_succ]
          go_wp2_with (first
            | (refine hs_loadW hT' 6 rfl rfl 27 _ rfl rfl 99 sizeDesc HWL.out _ undDesc.choose_spec rfl _ rfl ?_)
            | (refine hs_loadW hT' 5 rfl rfl 27 _ rfl rfl 99 sizeDesc HDL.out _ undDesc.choose_spec rfl _ rfl ?_)
            | (refine hs_loadW hT' 0 rfl rfl 27 _ rfl rfl 99 sizeDesc HUL.out _ undDesc.choose_spec rfl _ rfl ?_)
            | (refine hs_loadW hT' 2 rfl rfl 27 _ rfl rfl 99 sizeDesc HUL.out _ undDesc.choose_spec rfl _ rfl ?_)
            | (refine bin_toM rfl _ _ _ _ _ rfl Du.toArray Du.toArray rfl rfl guardDescM (.bool true) HUE.out _ rfl ?_)
            | fail)
          first | exact ⟨rfl, rfl, rfl⟩ | rfl
        apply wpS_read (i := 32) rfl rfl ⟨_, hS⟩ rfl
        · intro w' hT'
          simp only [getElem_toArray, getElem_cons_zero, getElem_cons_succ]
          go_wp2_with fail
          first | exact ⟨rfl, rfl, rfl⟩ | rfl
        apply wpS_read (i := 33) rfl rfl ⟨_, hS⟩ rfl
        · intro w' hT'
          simp only [getElem_toArray, getElem_cons_zero, getElem_cons_succ]
          go_wp2_with fail
          first | exact ⟨rfl, rfl, rfl⟩ | rfl
        apply wpS_read (i := 34) rfl rfl ⟨_, hS⟩ rfl
        · intro w' hT'
          simp only [getElem_toArray, getElem_cons_zero, getElem_cons_succ]
          go_wp2_with (first
            | (refine hs_loadW hT' 6 rfl rfl 27 _ rfl rfl 99 sizeDesc HWL.out _ undDesc.choose_spec rfl _ rfl ?_)
            | (refine hs_loadW hT' 5 rfl rfl 27 _ rfl rfl 99 sizeDesc HDL.out _ undDesc.choose_spec rfl _ rfl ?_)
            | (refine hs_loadW hT' 0 rfl rfl 27 _ rfl rfl 99 sizeDesc HUL.out _ undDesc.choose_spec rfl _ rfl ?_)
            | (refine hs_loadW hT' 2 rfl rfl 27 _ rfl rfl 99 sizeDesc HUL.out _ undDesc.choose_spec rfl _ rfl ?_)
            | (refine bin_toM rfl _ _ _ _ _ rfl Du.toArray Du.toArray rfl rfl guardDescM (.bool true) HUE.out _ rfl ?_)
            | fail)
          first | exact ⟨rfl, rfl, rfl⟩ | rfl
        apply wpS_read (i := 35) rfl rfl ⟨_, hS⟩ rfl
        · intro w' hT'
          simp only [getElem_toArray, getElem_cons_zero, getElem_cons_succ]
          go_wp2_with (first
            | (refine hs_loadW hT' 6 rfl rfl 27 _ rfl rfl 99 sizeDesc HWL.out _ undDesc.choose_spec rfl _ rfl ?_)
            | (refine hs_loadW hT' 5 rfl rfl 27 _ rfl rfl 99 sizeDesc HDL.out _ undDesc.choose_spec rfl _ rfl ?_)
            | (refine hs_loadW hT' 0 rfl rfl 27 _ rfl rfl 99 sizeDesc HUL.out _ undDesc.choose_spec rfl _ rfl ?_)
            | (refine hs_loadW hT' 2 rfl rfl 27 _ rfl rfl 99 sizeDesc HUL.out _ undDesc.choose_spec rfl _ rfl ?_)
            | (refine bin_toM rfl _ _ _ _ _ rfl Du.toArray Du.toArray rfl rfl guardDescM (.bool true) HUE.out _ rfl ?_)
            | fail)
          first | exact ⟨rfl, rfl, rfl⟩ | rfl
        apply wpS_read (i := 36) rfl rfl ⟨_, hS⟩ rfl
        · intro w' hT'
          simp only [getElem_toArray, getElem_cons_zero, getElem_cons_succ]
          go_wp2_with (first
            | (refine hs_loadW hT' 6 rfl rfl 27 _ rfl rfl 99 sizeDesc HWL.out _ undDesc.choose_spec rfl _ rfl ?_)
            | (refine hs_loadW hT' 5 rfl rfl 27 _ rfl rfl 99 sizeDesc HDL.out _ undDesc.choose_spec rfl _ rfl ?_)
            | (refine hs_loadW hT' 0 rfl rfl 27 _ rfl rfl 99 sizeDesc HUL.out _ undDesc.choose_spec rfl _ rfl ?_)
            | (refine hs_loadW hT' 2 rfl rfl 27 _ rfl rfl 99 sizeDesc HUL.out _ undDesc.choose_spec rfl _ rfl ?_)
            | (refine bin_toM rfl _ _ _ _ _ rfl Du.toArray Du.toArray rfl rfl guardDescM (.bool true) HUE.out _ rfl ?_)
            | fail)
          first | exact ⟨rfl, rfl, rfl⟩ | rfl
        apply wpS_read (i := 37) rfl rfl ⟨_, hS⟩ rfl
        · intro w' hT'
          simp only [getElem_toArray, getElem_cons_zero, getElem_cons_succ]
          go_wp2_with fail
          first | exact ⟨rfl, rfl, rfl⟩ | rfl
        apply wpS_read (i := 38) rfl rfl ⟨_, hS⟩ rfl
        · intro w' hT'
          simp only [getElem_toArray, getElem_cons_zero, getElem_cons_succ]
          go_wp2_with fail
          first | exact ⟨rfl, rfl, rfl⟩ | rfl
        apply wpS_read (i := 39) rfl rfl ⟨_, hS⟩ rfl
        · intro w' hT'
          simp only [getElem_toArray, getElem_cons_zero, getElem_cons_succ]
          go_wp2_with fail
          first | exact ⟨rfl, rfl, rfl⟩ | rfl
        apply wpS_read (i := 40) rfl rfl ⟨_, hS⟩ rfl
        · intro w' hT'
          simp only [getElem_toArray, getElem_cons_zero, getElem_cons_succ]
          go_wp2_with fail
          first | exact ⟨rfl, rfl, rfl⟩ | rfl
        refine wpS_hard (i := 41) rfl rfl ?_
        intro w41 hT
        simp only [getElem_toArray, getElem_cons_zero, getElem_cons_succ]
        go_wp2_with (first
          | (go_at_call 19; refine (same_calls bl bl Av Az cv cz nv nv _ hnv.out.symm hnv.out.symm ((hT.os 5 rfl).rd rfl) ((hT.os 3 rfl).rd rfl) (by omega) (by omega)).mono ?_; rintro e w6 ⟨rfl, qq, rfl⟩; rw [show decide (bl = bl) = true by simp])
          | fail)
        refine HardP.mk' ([.os 5 (.slice A2 108 c2) (ints .u8 bw), .os 5 (.slice A1 108 c1) (ints .u8 bw)]) rfl ?_ ?_
        · exact hT.drewN qq
        clear hT
        apply wpS_read (i := 42) rfl rfl ⟨_, hS⟩ rfl
        · intro w' hT'
          simp only [getElem_toArray, getElem_cons_zero, getElem_cons_succ]
          go_wp2_with fail
          first | exact ⟨rfl, rfl, rfl⟩ | rfl
        apply wpS_read (i := 43) rfl rfl ⟨_, hS⟩ rfl
        · intro w' hT'
          simp only [getElem_toArray, getElem_cons_zero, getElem_cons_succ]
          go_wp2_with fail
          first | exact ⟨rfl, rfl, rfl⟩ | rfl
        refine wpS_end ?_
        intro wz hT
        try dsimp only
        clear hS
        have hS := hT
        clear hT
        go_wp2_with fail
        go_ret
        exact ⟨rfl, hS.bel⟩
end Go.Proofs.YtlikinglgegclaaGreatDoor
