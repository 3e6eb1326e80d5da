import Derived.Test.YtinpilfnnmkpoaaDoorProg
import Derived.Deep.QuietTactic
import Derived.BigQuiet
import Derived.Test.YtinpilfnnmkpoaaDoorMgBH0
import Derived.Test.YtinpilfnnmkpoaaDoorMgBH1
import Derived.Test.YtinpilfnnmkpoaaDoorMgBH2
import Derived.Test.YtinpilfnnmkpoaaDoorMgBH3
import Derived.Test.YtinpilfnnmkpoaaDoorMgBH4
set_option linter.unusedSimpArgs false
set_option linter.unusedVariables false
/- The store's Commit. -/
namespace Go.Proofs.YtinpilfnnmkpoaaDoor
open Go.RowKit Go.Cour
def commitOf (id : List Int) (l : List Item) : Option Nat := match l[posOf id l]? with
  | none => some 13
  | some x => if x.done = true then none else if (x.b.length : Int) < x.n then some 16 else if shaOf x.b = id then none else some 15
def commitL (id : List Int) (l : List Item) : List Item := match l[posOf id l]? with
  | none => l
  | some x => l.set (posOf id l) { x with age := 0, done := x.done || (commitOf id l == none) }
theorem commitL_err {id : List Int} {l : List Item} (h : commitOf id l ≠ none) : commitL id l = touch id l := by
  unfold commitL touch
  cases hx : l[posOf id l]? with
  | none => rfl
  | some x =>
    cases hc : commitOf id l with
    | none => exact absurd hc h
    | some k => simp
theorem commitL_done {id : List Int} {l : List Item} {x : Item} (hx : l[posOf id l]? = some x) (hd : x.done = true) : commitL id l = touch id l := by
  unfold commitL touch
  rw [hx]; simp [hd]
theorem commitL_ok {id : List Int} {l : List Item} {x : Item} (hx : l[posOf id l]? = some x) (h : commitOf id l = none) : commitL id l = l.set (posOf id l) { x with age := 0, done := true } := by
  unfold commitL
  rw [hx]; simp [h]
theorem itemC_done (x : Item) (vb : Value) (h : x.id.length = 32) (d : Bool) : (itemC x vb).set 34 (.bool d) = itemC { x with done := d } vb := by
  have hl : (ints .u8 x.id).length = 32 := by simp [h]
  simp only [itemC]
  rw [List.set_append_right _ _ (by omega), hl]
  rfl
theorem os_cell {w : World} {e : TypeId} {g o n c j : Nat} {cs : List Value} {u : Value} (h : OwnS w e (.slice (some ⟨g, o, none⟩) n c) cs) (hj : cs[j]? = some u) : w.cell? ⟨g, o + j, none⟩ = some u := by
  obtain ⟨A, c', hv, _, _, _, _, hc⟩ := h.parts
  injection hv with hv
  obtain ⟨g', o', he, hcell⟩ := hc j u hj
  rw [← hv] at he
  injection he with he; injection he with h1 h2
  subst h1 h2
  exact hcell
theorem one_list {w : World} {g o i m c : Nat} {A : Option Addr} {xs bs : List Int} (hi : [xs][i]? = some bs) (hc : w.cell? ⟨g, o + 0, none⟩ = some (.slice A m c)) (hm : xs.length = m) (hmc : m ≤ c) (hr : Rd w A .u8 xs) :
    ∃ (Ai : Option Addr) (ni ci : Nat), w.cell? ⟨g, o + i, none⟩ = some (.slice Ai ni ci) ∧ bs.length = ni ∧ ni ≤ ci ∧ Rd w Ai .u8 bs := by
  cases i with
  | zero => simp at hi; subst hi; exact ⟨A, m, c, hc, hm, hmc, hr⟩
  | succ i => simp at hi
theorem undLB : Tryd.prog.underlying 79 = some (.slice 41) := by kernel_rfl
theorem zeroBytesS : (((Tryd.prog.info? 41).bind (·.zero)).map (·.cells.size)) = some 1 := by kernel_rfl
set_option maxHeartbeats 2000000 in
set_option maxRecDepth 100000 in
theorem commit_calls {w : World} {P : Nat → Addr} {B : Nat} {F F2 : Nat → Prop} {gs : Nat} {st : StoreD} {v : Value} {vs : List Value} (id : List Int) (hE : ErrsAt w P B) (hBw : B ≤ w.heap.size) (hF : ∀ k, F k → B ≤ k) (h : StoreAt w F gs st v vs F2) (hG : Good st) (hid' : id.length = 32)
    (hk : posOf id st.l < st.l.length) (hB8 : ∀ x ∈ st.l, ∀ b ∈ x.b, B8 b) :
    Calls Tryd.prog 21 #[.pointer (some ⟨gs, 0, none⟩), .agg (ints .u8 id).toArray] w fun e w' => e = .returned (erV P (commitOf id st.l)) ∧ Becomes w F gs w' { st with l := commitL id st.l } := by
  have HI := hid hid'
  have H := hid h
  have HLEN := hid (show st.l.length ≤ 1000000 by have := hG.len; omega)
  clear hid'
  obtain ⟨x, g, vb, hx, hu, hxl, hb, ho', hFg, hFb, hgs, hvg, hvb, hback⟩ := h.focus _ hk
  have hxn := hG.n x (List.mem_of_getElem? hx)
  have hxb := hG.b x (List.mem_of_getElem? hx)
  have HX8 := hid (hB8 x (List.mem_of_getElem? hx))
  have hr := hid (show vs.getD (posOf id st.l) (.pointer none) = .pointer (some ⟨g, 0, none⟩) by rw [List.getD_eq_getElem?_getD, hu]; rfl)
  have HT := hid (touch_some hx)
  have HX := hid hx
  have HK := hid hk
  have HU := hid hu
  clear hback ho' hgs hvg hvb hFg hFb hk h hb hu hB8
  obtain ⟨xb, hbs⟩ : ∃ xb, Hd (x.b = xb) := ⟨_, ⟨rfl⟩⟩
  obtain ⟨m, hm⟩ : ∃ m, Hd (xb.length = m) := ⟨_, ⟨rfl⟩⟩
  obtain ⟨xn, hxnn⟩ : ∃ xn, Hd (x.n = xn) := ⟨_, ⟨rfl⟩⟩
  have hgo : Hd (commitOf id st.l = if x.done = true then none else if (m : Int) < xn then some 16 else if shaOf xb = id then none else some 15) := hid (by unfold commitOf; rw [hx]; simp only [hbs.out, hm.out, hxnn.out])
  rw [hbs.out, hm.out, hxnn.out] at hxb
  rw [hbs.out] at HX8
  rw [hxnn.out] at hxn
  clear hx
  by_cases hd : x.done = true
  · rw [if_pos hd] at hgo
    have hpl := hid (commitL_done HX.out hd)
    rw [hgo.out, hpl.out]
    go_enter Tryd.func21, Tryd.ntmps21
    go_wp2_with (first
      | (refine box_blk rfl 30 _ rfl _ rfl (ints .u8 id) rfl ?_; intro gb w1 hgb hbb hB1 hs1
         clear hs1)
      | (refine load_blk rfl 30 _ rfl gb rfl 30 _ hbb 32 5 arrHash (by simp [ints, HI.out]) infoHash ?_)
      | (go_at_call 27; refine (named_calls id (H.out.below hB1) HI.out HLEN.out).mono ?_
         rintro e w2 ⟨he, ⟨F', F2', hst, hsub⟩, hup⟩
         rw [hr.out] at he
         subst he
         have hu2 := (Upd.of_below hB1 F).trans hup (fun j _ hj => hj)
         have hsub2 : Sub F' F w := fun k hk => (hsub k hk).imp (fun h => h) (fun h => by have := hB1.size; omega)
         have e16 := (hE.below (hu2.below hBw hF)).errs.cell 16 (by omega)
         have e1 := (hE.below (hu2.below hBw hF)).errs.cell 15 (by omega)
         simp only [globs, List.getD_cons_zero, List.getD_cons_succ] at e16 e1
         obtain ⟨x2, g2, vb2, hx2, hv2, hxl2, hb2, ho2, hFg2, hFb2, hgs2, hvg2, hvb22, hbk2⟩ := hst.focus (posOf id st.l) (by rw [HT.out]; simpa using HK.out)
         rw [HU.out] at hv2
         injection hv2 with hv2; injection hv2 with hv2; injection hv2 with hv2; injection hv2 with hv2
         subst hv2
         have hx3 : x2 = { x with age := 0 } := by
           rw [HT.out, List.getElem?_set_self HK.out] at hx2
           injection hx2 with hx2; exact hx2.symm
         obtain ⟨A2, c2, hvb2, hc2, hA2, hr2⟩ := ho2.parts
         have hb3 : x2.b = xb := by rw [hx3]; exact hbs.out
         rw [hb3] at hvb2 hc2 hr2
         rw [hm.out] at hvb2 hc2
         have c33 : w2.cell? ⟨g, 33, none⟩ = some (.slice A2 m c2) := by rw [hb2.cell]; have := itemC_at x2 vb2 hxl2 1; rw [this]; simp [hvb2]
         have c34 : w2.cell? ⟨g, 34, none⟩ = some (.bool x.done) := by rw [hb2.cell]; have := itemC_at x2 vb2 hxl2 2; rw [this]; simp [hx3]
         have c32 : w2.cell? ⟨g, 32, none⟩ = some (.int .i64 xn) := by rw [hb2.cell]; have := itemC_at x2 vb2 hxl2 0; rw [this]; simp [hx3, hxnn.out]
         have HB2 := hid hb2
         have HO2 := hid ho2
         have HX2 := hid hx3
         have HB3 := hid hb3
         replace hvb2 := hid hvb2
         have HR2 := hid hr2
         have HA2 := hid hA2
         have HGB := hid (hbb.upd hup (fun hf => by have := H.out.lt gb hf; omega))
         clear hb2 ho2 hx2 hx3 hb3 hbb hr2 hA2 hgs2 hvg2 hvb22)
      | fail)
    go_wp2_with fail
    go_ret
    exact ⟨rfl, F', v, vs, F2', hst, hsub2, hu2⟩
  · have hd2 : x.done = false := by simpa using hd
    rw [if_neg hd] at hgo
    by_cases hlt : (m : Int) < xn
    · rw [if_pos hlt] at hgo
      have hpl := hid (commitL_err (id := id) (l := st.l) (by rw [hgo.out]; simp))
      rw [hgo.out, hpl.out]
      go_enter Tryd.func21, Tryd.ntmps21
      go_wp2_with (first
        | (refine box_blk rfl 30 _ rfl _ rfl (ints .u8 id) rfl ?_; intro gb w1 hgb hbb hB1 hs1
           clear hs1)
        | (refine load_blk rfl 30 _ rfl gb rfl 30 _ hbb 32 5 arrHash (by simp [ints, HI.out]) infoHash ?_)
        | (go_at_call 27; refine (named_calls id (H.out.below hB1) HI.out HLEN.out).mono ?_
           rintro e w2 ⟨he, ⟨F', F2', hst, hsub⟩, hup⟩
           rw [hr.out] at he
           subst he
           have hu2 := (Upd.of_below hB1 F).trans hup (fun j _ hj => hj)
           have hsub2 : Sub F' F w := fun k hk => (hsub k hk).imp (fun h => h) (fun h => by have := hB1.size; omega)
           have e16 := (hE.below (hu2.below hBw hF)).errs.cell 16 (by omega)
           have e1 := (hE.below (hu2.below hBw hF)).errs.cell 15 (by omega)
           simp only [globs, List.getD_cons_zero, List.getD_cons_succ] at e16 e1
           obtain ⟨x2, g2, vb2, hx2, hv2, hxl2, hb2, ho2, hFg2, hFb2, hgs2, hvg2, hvb22, hbk2⟩ := hst.focus (posOf id st.l) (by rw [HT.out]; simpa using HK.out)
           rw [HU.out] at hv2
           injection hv2 with hv2; injection hv2 with hv2; injection hv2 with hv2; injection hv2 with hv2
           subst hv2
           have hx3 : x2 = { x with age := 0 } := by
             rw [HT.out, List.getElem?_set_self HK.out] at hx2
             injection hx2 with hx2; exact hx2.symm
           obtain ⟨A2, c2, hvb2, hc2, hA2, hr2⟩ := ho2.parts
           have hb3 : x2.b = xb := by rw [hx3]; exact hbs.out
           rw [hb3] at hvb2 hc2 hr2
           rw [hm.out] at hvb2 hc2
           have c33 : w2.cell? ⟨g, 33, none⟩ = some (.slice A2 m c2) := by rw [hb2.cell]; have := itemC_at x2 vb2 hxl2 1; rw [this]; simp [hvb2]
           have c34 : w2.cell? ⟨g, 34, none⟩ = some (.bool x.done) := by rw [hb2.cell]; have := itemC_at x2 vb2 hxl2 2; rw [this]; simp [hx3]
           have c32 : w2.cell? ⟨g, 32, none⟩ = some (.int .i64 xn) := by rw [hb2.cell]; have := itemC_at x2 vb2 hxl2 0; rw [this]; simp [hx3, hxnn.out]
           have HB2 := hid hb2
           have HO2 := hid ho2
           have HX2 := hid hx3
           have HB3 := hid hb3
           replace hvb2 := hid hvb2
           have HR2 := hid hr2
           have HA2 := hid hA2
           have HGB := hid (hbb.upd hup (fun hf => by have := H.out.lt gb hf; omega))
           clear hb2 ho2 hx2 hx3 hb3 hbb hr2 hA2 hgs2 hvg2 hvb22)
        | fail)
      go_quiet (fail)
      go_wp2_with fail
      go_ret
      exact ⟨rfl, F', v, vs, F2', hst.below (below_drewN (Below.refl _ _) _), hsub2, hu2.drewN _⟩
    · rw [if_neg hlt] at hgo
      have hlt2 : xn ≤ (m : Int) := by omega
      obtain ⟨ds, hds⟩ : ∃ ds, Hd (shaOf xb = ds) := ⟨_, hid rfl⟩
      have HDL : Hd (ds.length = 32) := hid (hds.out ▸ shaOf_length xb)
      rw [hds.out] at hgo
      have HEQ := hid fun w => run_equalIn_ints (P := Tryd.prog) w 9998 30 5 32 .u8 arrHash undU8B sizeU8B ds id HDL.out HI.out
      have hpos : Hd (some ⟨0, 0, none⟩ = (some ⟨0, 0, none⟩ : Option Addr)) := hid rfl
      by_cases hde : ds = id
      · rw [if_pos hde] at hgo
        have hpl := hid (commitL_ok HX.out hgo.out)
        rw [hgo.out, hpl.out]
        have hdd : decide (ds = id) = true := by simpa using hde
        clear hde
        go_enter Tryd.func21, Tryd.ntmps21
        go_wp2_with (first
          | (refine box_blk rfl 30 _ rfl _ rfl (ints .u8 id) rfl ?_; intro gb w1 hgb hbb hB1 hs1
             clear hs1)
          | (refine load_blk rfl 30 _ rfl gb rfl 30 _ hbb 32 5 arrHash (by simp [ints, HI.out]) infoHash ?_)
          | (go_at_call 27; refine (named_calls id (H.out.below hB1) HI.out HLEN.out).mono ?_
             rintro e w2 ⟨he, ⟨F', F2', hst, hsub⟩, hup⟩
             rw [hr.out] at he
             subst he
             have hu2 := (Upd.of_below hB1 F).trans hup (fun j _ hj => hj)
             have hsub2 : Sub F' F w := fun k hk => (hsub k hk).imp (fun h => h) (fun h => by have := hB1.size; omega)
             have e16 := (hE.below (hu2.below hBw hF)).errs.cell 16 (by omega)
             have e1 := (hE.below (hu2.below hBw hF)).errs.cell 15 (by omega)
             simp only [globs, List.getD_cons_zero, List.getD_cons_succ] at e16 e1
             obtain ⟨x2, g2, vb2, hx2, hv2, hxl2, hb2, ho2, hFg2, hFb2, hgs2, hvg2, hvb22, hbk2⟩ := hst.focus (posOf id st.l) (by rw [HT.out]; simpa using HK.out)
             rw [HU.out] at hv2
             injection hv2 with hv2; injection hv2 with hv2; injection hv2 with hv2; injection hv2 with hv2
             subst hv2
             have hx3 : x2 = { x with age := 0 } := by
               rw [HT.out, List.getElem?_set_self HK.out] at hx2
               injection hx2 with hx2; exact hx2.symm
             obtain ⟨A2, c2, hvb2, hc2, hA2, hr2⟩ := ho2.parts
             have hb3 : x2.b = xb := by rw [hx3]; exact hbs.out
             rw [hb3] at hvb2 hc2 hr2
             rw [hm.out] at hvb2 hc2
             have c33 : w2.cell? ⟨g, 33, none⟩ = some (.slice A2 m c2) := by rw [hb2.cell]; have := itemC_at x2 vb2 hxl2 1; rw [this]; simp [hvb2]
             have c34 : w2.cell? ⟨g, 34, none⟩ = some (.bool x.done) := by rw [hb2.cell]; have := itemC_at x2 vb2 hxl2 2; rw [this]; simp [hx3]
             have c32 : w2.cell? ⟨g, 32, none⟩ = some (.int .i64 xn) := by rw [hb2.cell]; have := itemC_at x2 vb2 hxl2 0; rw [this]; simp [hx3, hxnn.out]
             have HB2 := hid hb2
             have HO2 := hid ho2
             have HX2 := hid hx3
             have HB3 := hid hb3
             replace hvb2 := hid hvb2
             have HR2 := hid hr2
             have HA2 := hid hA2
             have HGB := hid (hbb.upd hup (fun hf => by have := H.out.lt gb hf; omega))
             clear hb2 ho2 hx2 hx3 hb3 hbb hr2 hA2 hgs2 hvg2 hvb22)
          | fail)
        go_quiet (fail)
        rename_i nq
        go_wp2_with fail
        have hS : HS NoF w2 (w2.drewN nq) [] := (HS.start NoF w2).drewN nq
        have HBK := hid hbk2
        have heq := HEQ.out
        clear hbk2
        try go_wp2_with fail
        refine wp_region_S (F := NoF) (w0 := w2) (L0 := []) [] [4, 5]
          (fun iK u E => match iK with
            | _ => False)
          ([]) (by kernel_rfl) (by kernel_rfl) hS ?_
        show wpS _ _ _ _ _ _ _ _ _ _ [0, 1, 2, 3, 4, 5, 6, 7, 8] _
        apply wpS_read (i := 0) rfl rfl ⟨_, hS⟩ rfl -- Op.move t5
        · intro w' hT'
          simp only [List.getElem_toArray, List.getElem_cons_zero, List.getElem_cons_succ]
          go_wp2_with fail
          first | exact ⟨rfl, rfl, rfl⟩ | rfl
        apply wpS_read (i := 1) rfl rfl ⟨_, hS⟩ rfl -- Op.nilCheck t31
        · intro w' hT'
          simp only [List.getElem_toArray, List.getElem_cons_zero, List.getElem_cons_succ]
          go_wp2_with fail
          first | exact ⟨rfl, rfl, rfl⟩ | rfl
        apply wpS_read (i := 2) rfl rfl ⟨_, hS⟩ rfl -- Op.fieldAddr 62 t32 2
        · intro w' hT'
          simp only [List.getElem_toArray, List.getElem_cons_zero, List.getElem_cons_succ]
          go_wp2_with fail
          first | exact ⟨rfl, rfl, rfl⟩ | rfl
        apply wpS_read (i := 3) rfl rfl ⟨_, hS⟩ rfl -- Op.load 41 t33
        · intro w' hT'
          simp only [List.getElem_toArray, List.getElem_cons_zero, List.getElem_cons_succ]
          have k33 := hT'.oldCell c33 (fun h => h)
          go_wp2_with (first
            | (refine load_blk rfl 30 _ rfl gb rfl 30 _ (hT'.oldBlk HGB.out (fun h => h)) 32 5 arrHash (by simp [ints, HI.out]) infoHash ?_)
            | fail)
          first | exact ⟨rfl, rfl, rfl⟩ | rfl
        refine wpS_hard (i := 4) rfl rfl ?_ -- Op.buildSlice 79 1 #[(0, t34)]
        intro w4 hT
        simp only [List.getElem_toArray, List.getElem_cons_zero, List.getElem_cons_succ]
        go_wp2_with (first
          | (refine hs_one hT rfl 79 41 _ rfl undLB sizeBytesS zeroBytesS (.slice A2 m c2) rfl rfl _ rfl ?_; clear hT; intro go wo hgo hBo hT)
          | fail)
        refine HardP.mk' ([.os 41 (.slice (some ⟨go, 0, none⟩) 1 1) [.slice A2 m c2]]) rfl ?_ ?_
        · exact hT
        clear hT
        clear hgo hBo
        refine wpS_hard (i := 5) rfl rfl ?_ -- Op.call { value (Operand.func 34), args := #[t35], argTypes := #[79]
        intro w5 hT
        replace hT : HS NoF w2 w5 [.os 41 (.slice (some ⟨go, 0, none⟩) 1 1) [.slice A2 m c2]] := hT
        simp only [List.getElem_toArray, List.getElem_cons_zero, List.getElem_cons_succ]
        go_wp2_with (first
          | (go_at_call 34; refine (sum_calls [xb] 1 1 (some ⟨go, 0, none⟩) _ rfl (.inr ⟨go, 0, rfl, fun i bs hi => one_list hi (os_cell (hT.os 0 rfl) rfl) hm.out hc2 (hT.oldRd HR2.out (fun _ _ _ h => h))⟩) (fun bs hbs => by simp at hbs; subst hbs; exact HX8.out) (by simp; have := hm.out; omega) (by decide)).mono ?_; rintro e wz ⟨rfl, hB⟩; rw [show [xb].flatten = xb from by simp, hds.out])
          | fail)
        refine HardP.mk' ([.os 41 (.slice (some ⟨go, 0, none⟩) 1 1) [.slice A2 m c2]]) rfl ?_ ?_
        · exact hT.below hB
        clear hT
        clear hB
        apply wpS_read (i := 6) rfl rfl ⟨_, hS⟩ rfl -- Op.load 30 t3
        · intro w' hT'
          simp only [List.getElem_toArray, List.getElem_cons_zero, List.getElem_cons_succ]
          have k33 := hT'.oldCell c33 (fun h => h)
          go_wp2_with (first
            | (refine load_blk rfl 30 _ rfl gb rfl 30 _ (hT'.oldBlk HGB.out (fun h => h)) 32 5 arrHash (by simp [ints, HI.out]) infoHash ?_)
            | fail)
          first | exact ⟨rfl, rfl, rfl⟩ | rfl
        apply wpS_read (i := 7) rfl rfl ⟨_, hS⟩ rfl -- Op.binOp BinOp.neq 30 t36 t37 30
        · intro w' hT'
          simp only [List.getElem_toArray, List.getElem_cons_zero, List.getElem_cons_succ]
          go_wp2_with (first
            | (refine load_blk rfl 30 _ rfl gb rfl 30 _ (hT'.oldBlk HGB.out (fun h => h)) 32 5 arrHash (by simp [ints, HI.out]) infoHash ?_)
            | fail)
          first | exact ⟨rfl, rfl, rfl⟩ | rfl
        apply wpS_read (i := 8) rfl rfl ⟨_, hS⟩ rfl -- Op.assign t38
        · intro w' hT'
          simp only [List.getElem_toArray, List.getElem_cons_zero, List.getElem_cons_succ]
          go_wp2_with fail
          first | exact ⟨rfl, rfl, rfl⟩ | rfl
        refine wpS_end ?_
        intro wz hT
        try dsimp only
        clear heq
        have hbg := hT.oldBlk HB2.out (fun h => h)
        have cd := hT.oldCell c34 (fun h => h)
        have fz := hbg.frozen 34
        go_wp2_with fail
        go_ret
        have hneg : vb2.ownBlock ≠ some g := blk_own_ne HB2.out HO2.out (by decide)
        obtain ⟨F3, F4, hst3, hsub3⟩ := HBK.out (wz.setCell ⟨g, 34, none⟩ (.bool true)) { x2 with done := true } vb2 (by rw [← itemC_done x2 vb2 hxl2]; exact hbg.set 34 _) hxl2
          ((HO2.out.kept' fun j hj => hT.old (HO2.out.lt_size j hj) (fun h => h)).setOther (fun he => hneg he.symm) _) (fun k hk => .inl hk) (fun k hk hne hno => by
            rw [Below.heap_setCell _ _ _ _ hne]; exact hT.old (hst.lt k hk) (fun h => h))
        have hl2 : (touch id st.l).set (posOf id st.l) { x2 with done := true } = st.l.set (posOf id st.l) { x with age := 0, done := true } := by rw [HT.out, HX2.out, List.set_set]
        rw [hl2] at hst3
        refine ⟨rfl, F3, v, vs, F4, hst3, fun k hk => (hsub3 k hk).elim (fun h => hsub2 k h) (fun h => .inr (Nat.le_trans hu2.size h)), ?_⟩
        exact (hu2.trans (Upd.of_below hT.bel F) (fun _ _ h => h)).trans (Upd.setCell wz ⟨g, 34, none⟩ (.bool true)) (fun j hj hjg => by
          have hjg' : j = g := hjg
          subst hjg'
          rcases hsub2 j hFg2 with h1 | h1
          · exact h1
          · omega)
      · rw [if_neg hde] at hgo
        have hpl := hid (commitL_err (id := id) (l := st.l) (by rw [hgo.out]; simp))
        rw [hgo.out, hpl.out]
        have hdd : decide (ds = id) = false := by simpa using hde
        clear hde
        go_enter Tryd.func21, Tryd.ntmps21
        go_wp2_with (first
          | (refine box_blk rfl 30 _ rfl _ rfl (ints .u8 id) rfl ?_; intro gb w1 hgb hbb hB1 hs1
             clear hs1)
          | (refine load_blk rfl 30 _ rfl gb rfl 30 _ hbb 32 5 arrHash (by simp [ints, HI.out]) infoHash ?_)
          | (go_at_call 27; refine (named_calls id (H.out.below hB1) HI.out HLEN.out).mono ?_
             rintro e w2 ⟨he, ⟨F', F2', hst, hsub⟩, hup⟩
             rw [hr.out] at he
             subst he
             have hu2 := (Upd.of_below hB1 F).trans hup (fun j _ hj => hj)
             have hsub2 : Sub F' F w := fun k hk => (hsub k hk).imp (fun h => h) (fun h => by have := hB1.size; omega)
             have e16 := (hE.below (hu2.below hBw hF)).errs.cell 16 (by omega)
             have e1 := (hE.below (hu2.below hBw hF)).errs.cell 15 (by omega)
             simp only [globs, List.getD_cons_zero, List.getD_cons_succ] at e16 e1
             obtain ⟨x2, g2, vb2, hx2, hv2, hxl2, hb2, ho2, hFg2, hFb2, hgs2, hvg2, hvb22, hbk2⟩ := hst.focus (posOf id st.l) (by rw [HT.out]; simpa using HK.out)
             rw [HU.out] at hv2
             injection hv2 with hv2; injection hv2 with hv2; injection hv2 with hv2; injection hv2 with hv2
             subst hv2
             have hx3 : x2 = { x with age := 0 } := by
               rw [HT.out, List.getElem?_set_self HK.out] at hx2
               injection hx2 with hx2; exact hx2.symm
             obtain ⟨A2, c2, hvb2, hc2, hA2, hr2⟩ := ho2.parts
             have hb3 : x2.b = xb := by rw [hx3]; exact hbs.out
             rw [hb3] at hvb2 hc2 hr2
             rw [hm.out] at hvb2 hc2
             have c33 : w2.cell? ⟨g, 33, none⟩ = some (.slice A2 m c2) := by rw [hb2.cell]; have := itemC_at x2 vb2 hxl2 1; rw [this]; simp [hvb2]
             have c34 : w2.cell? ⟨g, 34, none⟩ = some (.bool x.done) := by rw [hb2.cell]; have := itemC_at x2 vb2 hxl2 2; rw [this]; simp [hx3]
             have c32 : w2.cell? ⟨g, 32, none⟩ = some (.int .i64 xn) := by rw [hb2.cell]; have := itemC_at x2 vb2 hxl2 0; rw [this]; simp [hx3, hxnn.out]
             have HB2 := hid hb2
             have HO2 := hid ho2
             have HX2 := hid hx3
             have HB3 := hid hb3
             replace hvb2 := hid hvb2
             have HR2 := hid hr2
             have HA2 := hid hA2
             have HGB := hid (hbb.upd hup (fun hf => by have := H.out.lt gb hf; omega))
             clear hb2 ho2 hx2 hx3 hb3 hbb hr2 hA2 hgs2 hvg2 hvb22)
          | fail)
        go_quiet (fail)
        rename_i nq
        go_wp2_with fail
        have hS : HS NoF w2 (w2.drewN nq) [] := (HS.start NoF w2).drewN nq
        have HBK := hid hbk2
        have heq := HEQ.out
        clear hbk2
        try go_wp2_with fail
        refine wp_region_S (F := NoF) (w0 := w2) (L0 := []) [] [4, 5]
          (fun iK u E => match iK with
            | _ => False)
          ([]) (by kernel_rfl) (by kernel_rfl) hS ?_
        show wpS _ _ _ _ _ _ _ _ _ _ [0, 1, 2, 3, 4, 5, 6, 7, 8] _
        apply wpS_read (i := 0) rfl rfl ⟨_, hS⟩ rfl -- Op.move t5
        · intro w' hT'
          simp only [List.getElem_toArray, List.getElem_cons_zero, List.getElem_cons_succ]
          go_wp2_with fail
          first | exact ⟨rfl, rfl, rfl⟩ | rfl
        apply wpS_read (i := 1) rfl rfl ⟨_, hS⟩ rfl -- Op.nilCheck t31
        · intro w' hT'
          simp only [List.getElem_toArray, List.getElem_cons_zero, List.getElem_cons_succ]
          go_wp2_with fail
          first | exact ⟨rfl, rfl, rfl⟩ | rfl
        apply wpS_read (i := 2) rfl rfl ⟨_, hS⟩ rfl -- Op.fieldAddr 62 t32 2
        · intro w' hT'
          simp only [List.getElem_toArray, List.getElem_cons_zero, List.getElem_cons_succ]
          go_wp2_with fail
          first | exact ⟨rfl, rfl, rfl⟩ | rfl
        apply wpS_read (i := 3) rfl rfl ⟨_, hS⟩ rfl -- Op.load 41 t33
        · intro w' hT'
          simp only [List.getElem_toArray, List.getElem_cons_zero, List.getElem_cons_succ]
          have k33 := hT'.oldCell c33 (fun h => h)
          go_wp2_with (first
            | (refine load_blk rfl 30 _ rfl gb rfl 30 _ (hT'.oldBlk HGB.out (fun h => h)) 32 5 arrHash (by simp [ints, HI.out]) infoHash ?_)
            | fail)
          first | exact ⟨rfl, rfl, rfl⟩ | rfl
        refine wpS_hard (i := 4) rfl rfl ?_ -- Op.buildSlice 79 1 #[(0, t34)]
        intro w4 hT
        simp only [List.getElem_toArray, List.getElem_cons_zero, List.getElem_cons_succ]
        go_wp2_with (first
          | (refine hs_one hT rfl 79 41 _ rfl undLB sizeBytesS zeroBytesS (.slice A2 m c2) rfl rfl _ rfl ?_; clear hT; intro go wo hgo hBo hT)
          | fail)
        refine HardP.mk' ([.os 41 (.slice (some ⟨go, 0, none⟩) 1 1) [.slice A2 m c2]]) rfl ?_ ?_
        · exact hT
        clear hT
        clear hgo hBo
        refine wpS_hard (i := 5) rfl rfl ?_ -- Op.call { value (Operand.func 34), args := #[t35], argTypes := #[79]
        intro w5 hT
        replace hT : HS NoF w2 w5 [.os 41 (.slice (some ⟨go, 0, none⟩) 1 1) [.slice A2 m c2]] := hT
        simp only [List.getElem_toArray, List.getElem_cons_zero, List.getElem_cons_succ]
        go_wp2_with (first
          | (go_at_call 34; refine (sum_calls [xb] 1 1 (some ⟨go, 0, none⟩) _ rfl (.inr ⟨go, 0, rfl, fun i bs hi => one_list hi (os_cell (hT.os 0 rfl) rfl) hm.out hc2 (hT.oldRd HR2.out (fun _ _ _ h => h))⟩) (fun bs hbs => by simp at hbs; subst hbs; exact HX8.out) (by simp; have := hm.out; omega) (by decide)).mono ?_; rintro e wz ⟨rfl, hB⟩; rw [show [xb].flatten = xb from by simp, hds.out])
          | fail)
        refine HardP.mk' ([.os 41 (.slice (some ⟨go, 0, none⟩) 1 1) [.slice A2 m c2]]) rfl ?_ ?_
        · exact hT.below hB
        clear hT
        clear hB
        apply wpS_read (i := 6) rfl rfl ⟨_, hS⟩ rfl -- Op.load 30 t3
        · intro w' hT'
          simp only [List.getElem_toArray, List.getElem_cons_zero, List.getElem_cons_succ]
          have k33 := hT'.oldCell c33 (fun h => h)
          go_wp2_with (first
            | (refine load_blk rfl 30 _ rfl gb rfl 30 _ (hT'.oldBlk HGB.out (fun h => h)) 32 5 arrHash (by simp [ints, HI.out]) infoHash ?_)
            | fail)
          first | exact ⟨rfl, rfl, rfl⟩ | rfl
        apply wpS_read (i := 7) rfl rfl ⟨_, hS⟩ rfl -- Op.binOp BinOp.neq 30 t36 t37 30
        · intro w' hT'
          simp only [List.getElem_toArray, List.getElem_cons_zero, List.getElem_cons_succ]
          go_wp2_with (first
            | (refine load_blk rfl 30 _ rfl gb rfl 30 _ (hT'.oldBlk HGB.out (fun h => h)) 32 5 arrHash (by simp [ints, HI.out]) infoHash ?_)
            | fail)
          first | exact ⟨rfl, rfl, rfl⟩ | rfl
        apply wpS_read (i := 8) rfl rfl ⟨_, hS⟩ rfl -- Op.assign t38
        · intro w' hT'
          simp only [List.getElem_toArray, List.getElem_cons_zero, List.getElem_cons_succ]
          go_wp2_with fail
          first | exact ⟨rfl, rfl, rfl⟩ | rfl
        refine wpS_end ?_
        intro wz hT
        try dsimp only
        clear heq
        have ce := hT.oldCell e1 (fun h => h)
        go_wp2_with fail
        go_ret
        exact ⟨rfl, F', v, vs, F2', hst.below hT.bel, hsub2, hu2.trans (Upd.of_below hT.bel F) (fun _ _ h => h)⟩
end Go.Proofs.YtinpilfnnmkpoaaDoor
/- The store among other things side by side; the laws' content. -/
namespace Go.Proofs.YtinpilfnnmkpoaaDoor
open Go.RowKit Go.Cour
/-- A store, as one thing of memory. -/
def entSto (F : Nat → Prop) (gs : Nat) (st : StoreD) : Ent where
  F := F
  p := fun w => ∃ v vs F2, StoreAt w F gs st v vs F2
  lt := fun ⟨_, _, _, h⟩ k hk => h.lt k hk
  kept := fun ⟨v, vs, F2, h⟩ hk => ⟨v, vs, F2, h.kept hk⟩
section
variable {w0 w w' : World} {P : Nat → Addr} {F : Nat → Prop} {gs : Nat} {st st' : StoreD} {L : List Ent}
theorem stoErrs (h : HS NoF w0 w L) (hE : Errs w0 P) : ErrsAt w P w0.heap.size := (ErrsAt.of hE).below h.bel
theorem stoF (h : HS NoF w0 w (entSto F gs st :: L)) : ∀ k, F k → w0.heap.size ≤ k := fun k hk => (h.own _ (List.mem_cons_self ..) k hk).resolve_left (fun h => h)
theorem Becomes.hs (hb : Becomes w F gs w' st') (h : HS NoF w0 w (entSto F gs st :: L)) : ∃ F', HS NoF w0 w' (entSto F' gs st' :: L) := by
  obtain ⟨F', v, vs, F2, h1, h2, h3⟩ := hb
  exact ⟨F', h.upd1 0 rfl h3 (entSto F' gs st') ⟨v, vs, F2, h1⟩ h2⟩
theorem openH (id : List Int) (n : Int) (o : Option Nat) (st2 : StoreD) (hE : Errs w0 P) (h : HS NoF w0 w (entSto F gs st :: L)) (hG : Good st) (hl : id.length = 32) (h1 : openE st id n = o) (h2 : openS st id n = st2) :
    Calls Tryd.prog 11 #[.pointer (some ⟨gs, 0, none⟩), .agg (ints .u8 id).toArray, .int .i64 n] w fun e w' => e = .returned (erV P o) ∧ ∃ F', HS NoF w0 w' (entSto F' gs st2 :: L) := by
  subst h1 h2
  obtain ⟨v, vs, F2, hs⟩ := h.get (i := 0) rfl
  exact (bopen_calls id n (stoErrs h hE) h.size (stoF h) hs hG hl).mono fun e w' ⟨he, hb⟩ => ⟨he, hb.hs h⟩
theorem putH (id : List Int) (off : Int) (bs : List Int) (Ab : Option Addr) (q cb : Nat) (r : Int × Option Nat) (l2 : List Item) (hE : Errs w0 P) (h : HS NoF w0 w (entSto F gs st :: L)) (hG : Good st) (hl : id.length = 32)
    (ho : -9223372036854775808 ≤ off ∧ off < 9223372036854775808) (hq : bs.length = q) (hq2 : q ≤ 1000000) (hqc : q ≤ cb) (hAb : Ab = none → cb = 0) (hrd : Rd w Ab .u8 bs) (hsep : ∀ a, Ab = some a → bs ≠ [] → ¬ F a.block) (h1 : putOf id off bs st.l = r) (h2 : putL id off bs st.l = l2) :
    Calls Tryd.prog 19 #[.pointer (some ⟨gs, 0, none⟩), .agg (ints .u8 id).toArray, .int .i64 off, .slice Ab q cb] w fun e w' => e = .returned (.tuple #[.int .i64 r.1, erV P r.2]) ∧ ∃ F', HS NoF w0 w' (entSto F' gs { st with l := l2 } :: L) := by
  subst h1 h2
  obtain ⟨v, vs, F2, hs⟩ := h.get (i := 0) rfl
  exact (put_calls id off bs Ab q cb (stoErrs h hE) h.size (stoF h) hs hG hl ho hq hq2 hqc hAb hrd hsep).mono fun e w' ⟨he, hb⟩ => ⟨he, hb.hs h⟩
theorem getH (id : List Int) (off n : Int) (r : List Int × Option Nat) (l2 : List Item) (hE : Errs w0 P) (h : HS NoF w0 w (entSto F gs st :: L)) (hG : Good st) (hl : id.length = 32)
    (ho : -9223372036854775808 ≤ off ∧ off < 9223372036854775808) (hn : -9223372036854775808 ≤ n ∧ n < 9223372036854775808) (h1 : getOf id off n st.l = r) (h2 : touch id st.l = l2) :
    Calls Tryd.prog 20 #[.pointer (some ⟨gs, 0, none⟩), .agg (ints .u8 id).toArray, .int .i64 off, .int .i64 n] w fun e w' => ∃ A m c, e = .returned (.tuple #[.slice A m c, erV P r.2]) ∧ r.1.length = m ∧ m ≤ c ∧ (A = none → c = 0) ∧ ∃ F', HS NoF w0 w' (entSto F' gs { st with l := l2 } :: .os 5 (.slice A m c) (ints .u8 r.1) :: L) := by
  subst h1 h2
  obtain ⟨v, vs, F2, hs⟩ := h.get (i := 0) rfl
  refine (get2_calls id off n (stoErrs h hE) h.size (stoF h) hs hl (by have := hG.len; omega) (fun x hx => by have h1 := hG.b x hx; have h2 := hG.n x hx; omega) ho hn).mono fun e w' ⟨u, F', v', vs', F2', he, ho', k1, k2, k3, k4⟩ => ?_
  obtain ⟨A, c, rfl, h5, h6⟩ := ho'.partsL rfl
  refine ⟨A, _, c, he, rfl, h5, h6, F', ?_⟩
  have h7 := h.upd1 0 rfl k3 (entSto F' gs { st with l := touch id st.l }) ⟨v', vs', F2', k1⟩ k2
  have h8 : HS NoF w0 w' (.os 5 (.slice A (getOf id off n st.l).1.length c) (ints .u8 (getOf id off n st.l).1) :: entSto F' gs { st with l := touch id st.l } :: L) :=
    h7.take _ ho'.os (fun k hk => .inr (Nat.le_trans h.size (ho'.base_le k hk))) (fun f hf k hk hfk => by
      have hk' := ho'.base_le k hk
      rcases List.mem_cons.1 hf with rfl | hf
      · exact k4 k hk hfk
      · have := h.mem.lt (List.mem_cons_of_mem _ hf) k hfk; omega)
  exact h8.perm (List.Perm.swap _ _ _)
theorem statH (id : List Int) (r : Int × Bool × Option Nat) (l2 : List Item) (hE : Errs w0 P) (h : HS NoF w0 w (entSto F gs st :: L)) (hG : Good st) (hl : id.length = 32) (h1 : statOf id st.l = r) (h2 : touch id st.l = l2) :
    Calls Tryd.prog 16 #[.pointer (some ⟨gs, 0, none⟩), .agg (ints .u8 id).toArray] w fun e w' => e = .returned (.tuple #[.int .i64 r.1, .bool r.2.1, erV P r.2.2]) ∧ ∃ F', HS NoF w0 w' (entSto F' gs { st with l := l2 } :: L) := by
  subst h1 h2
  obtain ⟨v, vs, F2, hs⟩ := h.get (i := 0) rfl
  exact (stat_calls id (stoErrs h hE) h.size (stoF h) hs hl (by have := hG.len; omega)).mono fun e w' ⟨he, hb⟩ => ⟨he, hb.hs h⟩
theorem commitH (id : List Int) (o : Option Nat) (l2 : List Item) (hE : Errs w0 P) (h : HS NoF w0 w (entSto F gs st :: L)) (hG : Good st) (hl : id.length = 32) (hk : posOf id st.l < st.l.length) (hB8 : ∀ x ∈ st.l, ∀ b ∈ x.b, B8 b) (h1 : commitOf id st.l = o) (h2 : commitL id st.l = l2) :
    Calls Tryd.prog 21 #[.pointer (some ⟨gs, 0, none⟩), .agg (ints .u8 id).toArray] w fun e w' => e = .returned (erV P o) ∧ ∃ F', HS NoF w0 w' (entSto F' gs { st with l := l2 } :: L) := by
  subst h1 h2
  obtain ⟨v, vs, F2, hs⟩ := h.get (i := 0) rfl
  exact (commit_calls id (stoErrs h hE) h.size (stoF h) hs hG hl hk hB8).mono fun e w' ⟨he, hb⟩ => ⟨he, hb.hs h⟩
theorem newH (quota life : Int) (h : HS NoF w0 w L) :
    Calls Tryd.prog 10 #[.int .i64 quota, .int .i64 life] w fun e w' => ∃ gs F', e = .returned (.pointer (some ⟨gs, 0, none⟩)) ∧ HS NoF w0 w' (entSto F' gs ⟨quota, max life 1, []⟩ :: L) :=
  (bnew_calls quota life w).mono fun e w' ⟨gs, F, F2, he, h1, h2, h3⟩ => ⟨gs, F, he, h.push h3 (entSto F gs _) ⟨_, _, _, h1⟩ h2⟩
/-- The laws' content. -/
def contOf (a : Nat) : List Int := fileTo a (20 + 40 * a)
theorem contOf_length (a : Nat) : (contOf a).length = 20 + 40 * a := fileTo_length _ _
theorem contOf_B8 (a : Nat) : ∀ x ∈ contOf a, B8 x := fun x hx => by
  obtain ⟨i, _, rfl⟩ := List.mem_map.1 hx
  exact ⟨Int.emod_nonneg _ (by decide), Int.emod_lt_of_pos _ (by decide)⟩
/-- Two results: a slot, and an array that lies in a block. -/
theorem results_tmpblk {P : Program} {fn : Func} {p q : Tmp} {ty : TypeId} (h : fn.results = #[.tmp p, .cell q ty]) (tmps : Array Value) (w : World) (g : Nat) (t : TypeId) (cs : List Value) (v : Value) (n : Nat) (e : TypeId)
    (hp : tmps.getD p undef = v) (hq : tmps.getD q undef = .pointer (some ⟨g, 0, none⟩)) (hg : Blk w g t cs) (hu : P.underlying ty = some (.array n e)) (hl : cs.length = n) (hi : (P.info? ty).map (·.size) = some n) :
    (results fn tmps).run P w = .ok (.tuple #[v, .agg cs.toArray]) w := by
  have hp' : tmps[p]?.getD undef = v := by simpa using hp
  have hq' : tmps[q]?.getD undef = .pointer (some ⟨g, 0, none⟩) := by simpa using hq
  simp [results, h, hp', hq', asAddr, run_loadVar_row w g t ty cs.toArray (0, 0) _ hg hu rfl (by rw [hi]; simp [hl])]
end
set_option maxRecDepth 100000 in
theorem content_calls (a : Nat) (ha : a ≤ 1000) (w : World) :
    Calls Tryd.prog 18 #[.int .i64 (a : Int)] w fun e w' => ∃ A m c, e = .returned (.tuple #[.slice A m c, .agg (ints .u8 (shaOf (contOf a))).toArray]) ∧ (contOf a).length = m ∧ m ≤ c ∧ (A = none → c = 0) ∧ HS NoF w w' [.os 5 (.slice A m c) (ints .u8 (contOf a))] := by
  have hS := HS.start NoF w
  have HL := hid (contOf_length a)
  obtain ⟨s, hs⟩ : ∃ s : Nat, 20 + 40 * a = s := ⟨_, rfl⟩
  have e1 : 20 + 40 * (a : Int) = (s : Int) := by omega
  have hs2 : s ≤ 50000 := by omega
  have HC : Hd (fileTo (a : Int) s = contOf a) := hid (by rw [← hs]; rfl)
  have HSL := hid (shaOf_length (contOf a))
  rw [hs] at HL
  clear hs
  go_enter Tryd.func18, Tryd.ntmps18
  go_wp2_with (first
    | (refine alloc_blk rfl 30 rfl _ rfl (ints .u8 (List.replicate 32 0)) zeroHashS ?_; intro g2 w2 hga hba hBa hsa; replace hS := hS.pushBlk hBa hba hga; clear hga hba hBa hsa)
    | (go_at_call 32; refine (file_calls a s _ (by omega)).mono ?_; rintro e w3 ⟨v3, rfl, ho, hB⟩
       rw [HC.out] at ho
       obtain ⟨A, c, rfl, hc, hA⟩ := ho.partsL HL.out
       replace hS := hS.pushOwn hB ho
       clear ho hB)
    | (go_at_call 25; refine (sum1_calls (contOf a) A s c _ HL.out ((hS.os 0 rfl).rd rfl) (contOf_B8 a) (by omega)).mono ?_; rintro e w4 ⟨rfl, hB⟩; replace hS := hS.below hB; clear hB)
    | (refine hs_storeW hS 1 rfl rfl 30 _ _ rfl rfl (ints .u8 (shaOf (contOf a))) rfl (ints_one' _ _) _ infoHashS (by simp [HSL.out]) (by simp) _ rfl ?_; clear hS; intro w5 hS)
    | fail)
  exact bodyPost_ret (results_tmpblk rfl _ _ g2 _ _ _ 32 _ rfl rfl (hS.blk 1 rfl) arrHashS (by simp [HSL.out]) infoHashS) rfl ⟨A, s, c, rfl, HL.out, hc, hA, hS.sub (by simp)⟩
end Go.Proofs.YtinpilfnnmkpoaaDoor
/- A place of one's own slice written; All of a store of one. -/
namespace Go.Cour
open Go.RowKit
section
variable {P : Program} {ops : Array Oper} {rest : List Oper} {o : Oper} {a : Act} {w w0 : World} {Q : Exit → Act → World → Prop} {F : Nat → Prop} {L : List Ent}
/-- A place of one's own slice stored. -/
theorem hs_storeS (hS : HS F w0 w L) (i : Nat) {e : TypeId} {g off n c : Nat} {cs : List Value} (hi : L[i]? = some (.os e (.slice (some ⟨g, off, none⟩) n c) cs)) (hw : Region.wanted o (yielded ops a.tmps) = true) (ty : TypeId) (x y : Operand) (ho : o.op = .store ty x y)
    (j : Nat) (hx : a.eval x = .pointer (some ⟨g, off + j, none⟩)) (v : Value) (hv : a.eval y = v) (h1 : v.oneCell' = true) (hs : (P.info? ty).map (·.size) = some 1) (hj : j < cs.length) (d : Option Tmp) (hd : o.dst = d)
    (h : ∀ w', HS F w0 w' (L.set i (.os e (.slice (some ⟨g, off, none⟩) n c) (cs.set j v))) → wpList P ops Q rest (a.put d undef) w') : wpList P ops Q (o :: rest) a w := by
  subst hd
  refine wpList_step fun K hK => ?_
  rw [if_pos hw]
  have hc : v.cells = #[v] := by cases v <;> first | rfl | cases h1
  have hos := hS.os i hi
  obtain ⟨A', c', hv', _, _, _, _, hcell⟩ := hos.parts
  obtain ⟨g', o', he, hcl⟩ := hcell j cs[j] (List.getElem?_eq_getElem hj)
  injection hv' with hv1
  rw [← hv1] at he
  injection he with he; injection he with he1 he2
  subst he1 he2
  have hfz := hos.frozen rfl (off + j)
  have hrun : (storeVar ty ⟨g, off + j, none⟩ v).run P w = .ok () (w.setCell ⟨g, off + j, none⟩ v) := by
    cases hq : P.info? ty with
    | none => simp [hq] at hs
    | some z =>
      have hz : z.size = 1 := by simpa [hq] using hs
      have := run_storeVar_mid (P := P) w g (off + j) ty #[v] (fun i hi => by
        have : i = 0 := by simpa using hi
        subst this
        exact ⟨by rw [Nat.add_zero, hcl]; rfl, by rw [Nat.add_zero]; exact hfz⟩) (by simp [hq, hz]) (by simpa using h1)
      have h2 : storeVar ty ⟨g, off + j, none⟩ v = storeVar ty ⟨g, off + j, none⟩ (.agg #[v]) := by
        have e1 : (Value.agg #[v]).cells = #[v] := rfl
        unfold storeVar
        rw [hc, e1]
      rw [h2, this]
      simp [World.setCells]
  unfold Oper.wp execOp
  simp only [ho, hx, hv, Instr.storeAt, Instr.sureAddr, Sem.run_bind, Sem.run_pure, Result.andThen_ok, hrun]
  exact hK _ _ (h _ (hS.upd1 i hi ((Upd.setCell w ⟨g, off + j, none⟩ v).mono fun k _ hk => by
    have : k = g := hk
    subst this; rfl) _ (hos.set rfl j v hj) (fun k hk => .inl hk)))
end
end Go.Cour
namespace Go.Proofs.YtinpilfnnmkpoaaDoor
open Go.RowKit Go.Cour
theorem allH1 {w0 w : World} {F : Nat → Prop} {gs : Nat} {st : StoreD} {L : List Ent} (D : List Int) (h : HS NoF w0 w (entSto F gs st :: L)) (hD : idRows st.l = [ints .u8 D]) (hl1 : st.l.length ≤ 1000000) :
    Calls Tryd.prog 17 #[.pointer (some ⟨gs, 0, none⟩)] w fun e w' => ∃ (g c : Nat) (cs : List Value), e = .returned (.slice (some ⟨g, 0, none⟩) 1 c) ∧ 1 ≤ c ∧ 32 ≤ cs.length ∧ (∀ (j : Nat) (u : Value), (ints .u8 D)[j]? = some u → cs[j]? = some u) ∧ HS NoF w0 w' (entSto F gs st :: .blk g 30 cs :: L) := by
  obtain ⟨v, vs, F2, hs⟩ := h.get (i := 0) rfl
  refine (ball_calls hs hl1).mono fun e w' ⟨v', he, ho, hn, hb⟩ => ?_
  rw [hD] at ho
  obtain ⟨⟨h1, h2⟩, h3⟩ := ho
  rcases h2 with ⟨_, h2⟩ | ⟨g, cap, cur, rfl, hg, hh, hn1, hm, hs2, ht⟩
  · simp at h2
  · have hD32 : (ints .u8 D).length = 32 := h3 _ (by simp)
    have hge : w.heap.size ≤ g := hn g rfl
    have hbk : Blk w' g 30 cur.toList := by unfold Blk; simpa using hh
    have h9 := h.push hb (.blk g 30 cur.toList) hbk (fun k hk => by have : k = g := hk; omega)
    refine ⟨g, cap, cur.toList, he, hn1, ?_, fun j u hu => ?_, h9.perm (List.Perm.swap _ _ _)⟩
    · simp at hn1
      have : 1 * 32 ≤ cap * 32 := Nat.mul_le_mul_right _ hn1
      simp; omega
    · have hj := (List.getElem?_eq_some_iff.1 hu).1
      have h4 : (ints .u8 D)[j]? = (List.take (1 * 32) cur.toList)[j]? := by rw [show (1 * 32) = [ints .u8 D].length * 32 from rfl, ht]; simp
      rw [hu, List.getElem?_take, if_pos (by omega)] at h4
      exact h4.symm
end Go.Proofs.YtinpilfnnmkpoaaDoor
/- SameBytes, Bytes: lists of bytes held against each other, copied. -/
namespace Go.Proofs.YtinpilfnnmkpoaaDoor
open Go.RowKit Go.Cour
theorem ext_rd {xs ys : List Int} (hl : xs.length = ys.length) (h : ∀ i, i < xs.length → rd xs i = rd ys i) : xs = ys := by
  apply List.ext_getElem hl
  intro i h1 h2
  have := h i h1
  simpa [rd, h1, h2] using this
set_option maxHeartbeats 2000000 in
set_option maxRecDepth 100000 in
theorem same_calls (xs ys : List Int) (A B : Option Addr) (c d m n : Nat) (w : World) (hm : m = xs.length) (hn : n = ys.length) (hx : Rd w A .u8 xs) (hy : Rd w B .u8 ys) (hl : xs.length ≤ 1000000000) (hl' : ys.length ≤ 1000000000) :
    Calls Tryd.prog 22 #[.slice A m c, .slice B n d] w fun e w' => e = .returned (.bool (decide (xs = ys))) ∧ ∃ q, w' = w.drewN q := by
  subst hm hn
  by_cases he : xs.length = ys.length
  · have HE := hid he
    have hb : ((xs.length : Int) == (ys.length : Int)) = true := by rw [beq_iff_eq]; omega
    have hb' : (xs.length == ys.length) = true := by rw [beq_iff_eq]; omega
    obtain ⟨n, hnx⟩ : ∃ n, Hd (n = xs.length) := ⟨_, hid rfl⟩
    rw [← show n = ys.length by rw [hnx.out]; exact he] at hl' ⊢
    rw [← hnx.out] at hl ⊢
    have HX := hid hx
    have HY := hid hy
    clear hx hy he hb hb'
    go_enter Tryd.func22, Tryd.ntmps22
    go_wp2
    go_loopg [5] (n + 1) (fun kq v5 wr => ∃ i : Nat, i ≤ n ∧ v5 = .int .i64 i ∧ Hd (kq + i = n + 1) ∧ Hd (∀ j, j < i → rd xs j = rd ys j) ∧ Hd (∃ q, wr = w.drewN q))
    case atStart => exact ⟨0, by omega, rfl, hid (by omega), hid (by intro j hj; omega), hid ⟨0, rfl⟩⟩
    case round =>
      obtain ⟨i, hi, rfl, hq, hs, hw⟩ := hrel
      obtain ⟨q, rfl⟩ := hw.out
      by_cases hlt : i < n
      · obtain ⟨g, o, rfl⟩ := HX.out.at (by rw [← hnx.out]; omega)
        obtain ⟨g', o', rfl⟩ := HY.out.at (by rw [← HE.out, ← hnx.out]; omega)
        have cx := HX.out.cellAt i (by rw [← hnx.out]; omega)
        have cy := HY.out.cellAt i (by rw [← HE.out, ← hnx.out]; omega)
        have a1 : (i : Int) < n := by omega
        obtain ⟨x, hx⟩ : ∃ x, Hd (x = rd xs i) := ⟨_, hid rfl⟩
        obtain ⟨y, hy⟩ : ∃ y, Hd (y = rd ys i) := ⟨_, hid rfl⟩
        rw [← hx.out] at cx
        rw [← hy.out] at cy
        by_cases hxy : x = y
        · have hb : (x == y) = true := by rw [beq_iff_eq]; exact hxy
          have HXY := hid hxy
          clear hxy
          go_wp2
          go_quiet (fail)
          go_wp2
          go_roundg (gk - 1)
          case measure => have := hq.out; omega
          case rel =>
            refine ⟨i + 1, by omega, by go_num, hid (by have := hq.out; omega), hid ?_, hid ⟨_, rfl⟩⟩
            intro j hj
            by_cases hji : j = i
            · subst hji; rw [← hx.out, ← hy.out]; exact HXY.out
            · exact hs.out j (by omega)
        · have hb : (x == y) = false := by rw [beq_eq_false_iff_ne]; exact hxy
          have HXY := hid hxy
          clear hxy
          go_wp2
          go_quiet (fail)
          go_wp2
          go_ret
          have hd : decide (xs = ys) = false := decide_eq_false (fun h => HXY.out (by rw [hx.out, hy.out, h]))
          rw [hd]
          exact ⟨rfl, _, rfl⟩
      · obtain rfl : i = n := by omega
        go_wp2
        go_ret
        have hd : decide (xs = ys) = true := decide_eq_true (ext_rd HE.out (fun j hj => hs.out j (by rw [hnx.out]; exact hj)))
        rw [hd]
        exact ⟨rfl, _, rfl⟩
  · have hb : ((xs.length : Int) == (ys.length : Int)) = false := by rw [beq_eq_false_iff_ne]; omega
    have hb' : (xs.length == ys.length) = false := by rw [beq_eq_false_iff_ne]; omega
    have HE := hid he
    clear he
    go_enter Tryd.func22, Tryd.ntmps22
    go_wp2
    go_ret
    have hd : decide (xs = ys) = false := decide_eq_false (fun h => HE.out (by rw [h]))
    rw [hd]
    exact ⟨rfl, 0, rfl⟩
end Go.Proofs.YtinpilfnnmkpoaaDoor
/- The law BlobOwn. -/
namespace Go.Proofs.YtinpilfnnmkpoaaDoor
open Go.RowKit Go.Cour
/-- A blob of so many bytes, with these. -/
def itm (id : List Int) (n : Int) (b : List Int) (d : Bool) : Item := ⟨id, n, b, d, 0⟩
section
variable {id b bs : List Int} {n off : Int} {d : Bool}
theorem posI : posOf id [itm id n b d] = 0 := by simp [posOf, itm, isId, List.findIdx_cons]
theorem getI : [itm id n b d][posOf id [itm id n b d]]? = some (itm id n b d) := by rw [posI]; rfl
theorem touchI : touch id [itm id n b d] = [itm id n b d] := by unfold touch; rw [getI]; rw [posI]; rfl
theorem goodI {q l : Int} (hn : 1 ≤ n ∧ n ≤ 30000) (hb : (b.length : Int) ≤ n) (hq : 0 ≤ q ∧ q < 4611686018427387904) : Good ⟨q, l, [itm id n b d]⟩ :=
  ⟨by simp, fun x hx => by simp at hx; subst hx; exact hn, fun x hx => by simp at hx; subst hx; exact hb, hq⟩
theorem openI {q l : Int} (hn : 1 ≤ n ∧ n ≤ 30000) (hq : n ≤ q) : openE ⟨q, l, []⟩ id n = none ∧ openS ⟨q, l, []⟩ id n = ⟨q, l, [itm id n [] false]⟩ := by
  unfold openE openS
  simp only [posOf, List.findIdx_nil, List.length_nil, used, List.map_nil, List.sum_nil]
  rw [if_neg (by omega), if_neg (by omega), if_neg (by omega), if_neg (by omega), if_neg (by omega), if_neg (by omega), if_neg (by omega), if_neg (by omega)]
  exact ⟨rfl, rfl⟩
theorem putI (hoff : 0 ≤ off ∧ off ≤ b.length) (hl : (bs.length : Int) ≤ n - off) : putOf id off bs [itm id n b false] = (((putB b off.toNat bs).length : Int), none) ∧ putL id off bs [itm id n b false] = [itm id n (putB b off.toNat bs) false] := by
  refine ⟨putOf_ok getI (by simp [itm]) (by simp [itm]; omega), ?_⟩
  rw [putL_ok getI (by simp [itm]) (by simp [itm]; omega), posI]; rfl
theorem commitI (h : shaOf b = id) (hl : n ≤ b.length) : commitOf id [itm id n b false] = none ∧ commitL id [itm id n b false] = [itm id n b true] := by
  have h1 : commitOf id [itm id n b false] = none := by
    unfold commitOf; rw [getI]
    show (if (itm id n b false).done = true then none else if ((itm id n b false).b.length : Int) < (itm id n b false).n then some 16 else if shaOf (itm id n b false).b = id then none else some 15) = none
    rw [if_neg (by simp [itm]), if_neg (by simp [itm]; omega), if_pos (show shaOf (itm id n b false).b = id from h)]
  exact ⟨h1, by rw [commitL_ok getI h1, posI]; rfl⟩
theorem gotI (hr : 0 ≤ n ∧ n ≤ 200 ∧ 0 ≤ off ∧ off + n ≤ b.length) {m : Int} : getOf id off n [itm id m b true] = ((b.drop off.toNat).take n.toNat, none) := by
  unfold getOf; rw [getI]
  show (if (itm id m b true).done = false then ([], some 16) else if n < 0 ∨ 200 < n ∨ off < 0 ∨ ((itm id m b true).b.length : Int) < off ∨ ((itm id m b true).b.length : Int) - off < n then ([], some 1) else (((itm id m b true).b.drop off.toNat).take n.toNat, none)) = _
  rw [if_neg (by simp [itm]), if_neg (by simp [itm]; omega)]
  rfl
end
theorem zeroHashT : Tryd.prog.built 30 [] = some (ints .u8 (List.replicate 32 0)).toArray := by kernel_rfl
theorem putB_nil (xs : List Int) : putB [] 0 xs = xs := by simp [putB]
set_option maxHeartbeats 4000000 in
set_option maxRecDepth 100000 in
theorem blobOwn_calls (a at_ : Int) {w : World} {P : Nat → Addr} (hE : Errs w P) :
    Calls Tryd.prog 6 #[.int .i64 a, .int .i64 at_] w fun e w' => e = .returned (.bool true) ∧ Below w.heap.size w w' := by
  have hS := HS.start NoF w
  have hneq := nil_neqK
  have heql := nil_eqlK
  obtain ⟨a0, ha0, ha6⟩ : ∃ a0 : Nat, Hd (a % 6 = (a0 : Int)) ∧ a0 < 6 := ⟨(a % 6).toNat, hid (by omega), by omega⟩
  have HL := hid (contOf_length a0)
  have H8 := hid (contOf_B8 a0)
  obtain ⟨xs, hxs⟩ : ∃ xs, Hd (contOf a0 = xs) := ⟨_, hid rfl⟩
  obtain ⟨D, hD⟩ : ∃ D, Hd (shaOf xs = D) := ⟨_, hid rfl⟩
  obtain ⟨s, hs⟩ : ∃ s : Nat, Hd (20 + 40 * a0 = s) := ⟨_, hid rfl⟩
  have hsb : 20 ≤ s ∧ s ≤ 220 := by have := hs.out; omega
  rw [hxs.out, hs.out] at HL
  rw [hxs.out] at H8
  have HDL : Hd (D.length = 32) := hid (hD.out ▸ shaOf_length xs)
  have hm3 : max (3 : Int) 1 = 3 := by omega
  have hop := openI (id := D) (n := (s : Int)) (q := 1000) (l := 3) (by omega) (by omega)
  have hg0 := Good.nil 1000 3 (by omega)
  have hg1 : Good ⟨1000, 3, [itm D s [] false]⟩ := goodI (by omega) (by simp) (by omega)
  have hpu := putI (id := D) (n := (s : Int)) (off := 0) (b := []) (bs := xs) (by simp) (by have := HL.out; omega)
  rw [show (0 : Int).toNat = 0 from rfl, putB_nil, HL.out] at hpu
  have hg2 : Good ⟨1000, 3, [itm D s xs false]⟩ := goodI (by omega) (by have := HL.out; omega) (by omega)
  have hco := commitI (id := D) (n := (s : Int)) (b := xs) hD.out (by have := HL.out; omega)
  have hg3 : Good ⟨1000, 3, [itm D s xs true]⟩ := goodI (by omega) (by have := HL.out; omega) (by omega)
  obtain ⟨q, hq⟩ : ∃ q : Nat, min s 200 = q := ⟨_, rfl⟩
  have hq1 : q ≤ s := by omega
  have hq2 : q ≤ 200 := by omega
  have hq20 : 20 ≤ q := by omega
  have hqm : (if (200 : Int) < (s : Int) then (200 : Int) else (s : Int)) = (q : Int) := by split <;> omega
  have hge := gotI (id := D) (m := (s : Int)) (off := 0) (n := (q : Int)) (b := xs) (by have := HL.out; omega)
  rw [show (0 : Int).toNat = 0 from rfl, List.drop_zero, Int.toNat_natCast] at hge
  obtain ⟨ys, hys⟩ : ∃ ys, Hd (xs.take q = ys) := ⟨_, hid rfl⟩
  rw [hys.out] at hge
  have HYL : Hd (ys.length = q) := hid (by rw [← hys.out, List.length_take, HL.out]; omega)
  obtain ⟨k0, hk0, hk0s⟩ : ∃ k0 : Nat, Hd (at_ % (s : Int) = (k0 : Int)) ∧ k0 < s := ⟨(at_ % (s : Int)).toNat, hid (by have := Int.emod_nonneg at_ (show (s : Int) ≠ 0 by omega); omega), by have := Int.emod_lt_of_pos at_ (show (0 : Int) < s by omega); have := Int.emod_nonneg at_ (show (s : Int) ≠ 0 by omega); omega⟩
  obtain ⟨x0, hx0⟩ : ∃ x, Hd (rd xs k0 = x) := ⟨_, hid rfl⟩
  obtain ⟨y0, hy0⟩ : ∃ x, Hd (rd ys 0 = x) := ⟨_, hid rfl⟩
  have hx0b : 0 ≤ x0 ∧ x0 < 256 := hx0.out ▸ rd_all (P := B8) H8.out zero_B8 k0
  have hy0b : 0 ≤ y0 ∧ y0 < 256 := hy0.out ▸ rd_all (P := B8) (hys.out ▸ fun x hx => H8.out x (List.mem_of_mem_take hx)) zero_B8 0
  have HEQD := hid fun w => run_equalIn_ints (P := Tryd.prog) w 9998 30 5 32 .u8 arrHash undU8B sizeU8B D D HDL.out HDL.out
  have hpos : Hd (posOf D [itm D s xs false] < [itm D s xs false].length) := hid (by rw [posI]; simp)
  have hB8 : Hd (∀ x ∈ [itm D s xs false], ∀ b ∈ x.b, B8 b) := hid (fun x hx => by simp at hx; subst hx; exact H8.out)
  have HOP := hid hop
  have HPU := hid hpu
  have HCO := hid hco
  have HGE := hid hge
  clear hop hpu hco hge hq
  go_enter Tryd.func6, Tryd.ntmps6
  go_wp2_with (first
    | (go_at_call 8; refine (first20_calls hE).mono ?_; rintro e w1 ⟨rfl, hB⟩; replace hS := hS.below hB; clear hB)
    | (go_at_call 9; refine (number_calls _ _ _ (by omega) (by omega)).mono ?_; rintro e wz ⟨rfl, rfl⟩; rw [ha0.out])
    | (go_at_call 18; refine (content_calls a0 (by omega) _).mono ?_; rintro e w2 ⟨A, m, c, rfl, hm, hc, hA, hn⟩
       obtain rfl : m = s := by rw [← hm, hxs.out, HL.out]
       rw [hxs.out] at hn ⊢
       rw [hD.out]
       replace hS : HS NoF w w2 [.os 5 (.slice A m c) (ints .u8 xs)] := HS.call (A := []) hS hn (fun k hk => hk.elim)
       clear hn hm)
    | (refine alloc_blk rfl 30 rfl _ rfl (ints .u8 (List.replicate 32 0)) zeroHashS ?_; intro g7 w3 hga hba hBa hsa; replace hS := hS.pushBlk hBa hba hga; clear hga hba hBa hsa)
    | (refine hs_storeW hS 0 rfl rfl 30 _ _ rfl rfl (ints .u8 D) rfl (ints_one' _ _) _ infoHashS (by simp [HDL.out]) (by simp) _ rfl ?_; clear hS; intro w4 hS)
    | fail)
  refine (newH 1000 3 hS).mono ?_
  rintro e w5 ⟨gs, F5, rfl, hS5⟩
  rw [hm3] at hS5
  clear hS
  have hS : HS NoF w w5 [entSto F5 gs ⟨1000, 3, []⟩, .blk g7 30 (ints .u8 D), .os 5 (.slice A m c) (ints .u8 xs)] := hS5
  clear hS5
  go_wp2_with (first
    | (refine hs_loadW hS 1 rfl rfl 30 _ rfl rfl 32 infoHashS (by simp [HDL.out]) _ arrHashS rfl _ rfl ?_)
    | fail)
  refine (openH D (m : Int) none _ hE hS hg0 HDL.out HOP.out.1 HOP.out.2).mono ?_
  rintro e w6 ⟨rfl, F6, hS6⟩
  replace hS := hS6
  clear hS6
  simp only [erV]
  go_wp2_with (first
    | (refine hs_loadW hS 1 rfl rfl 30 _ rfl rfl 32 infoHashS (by simp [HDL.out]) _ arrHashS rfl _ rfl ?_)
    | (go_at_call 23; refine (bytes_calls xs A c m _ HL.out.symm ((hS.os 2 rfl).rd rfl) (by omega)).mono ?_; rintro e w7 ⟨v7, rfl, ho, hB⟩
       obtain ⟨Ab, cb, rfl, hcb, hAb⟩ := ho.partsL HL.out
       replace hS := hS.pushOwn hB ho
       obtain ⟨gb, ob, rfl⟩ := ((hS.os 0 rfl).rd rfl).at (by rw [HL.out]; omega)
       replace hS : HS NoF w w7 [entSto F6 gs ⟨1000, 3, [itm D (m : Int) [] false]⟩, .blk g7 30 (ints .u8 D), .os 5 (.slice A m c) (ints .u8 xs), .os 5 (.slice (some ⟨gb, ob, none⟩) m cb) (ints .u8 xs)] := hS.perm (List.perm_append_comm (l₁ := [Ent.os 5 (.slice (some ⟨gb, ob, none⟩) m cb) (ints .u8 xs)]) (l₂ := [entSto F6 gs ⟨1000, 3, [itm D (m : Int) [] false]⟩, Ent.blk g7 30 (ints .u8 D), Ent.os 5 (.slice A m c) (ints .u8 xs)]))
       clear ho hB)
    | fail)
  refine (putH D 0 xs (some ⟨gb, ob, none⟩) m cb ((m : Int), none) _ hE hS hg1 HDL.out (by omega) HL.out (by omega) hcb hAb ((hS.os 3 rfl).rd rfl) (fun a ha hne hF => hS.mem.apart (i := 0) (j := 3) rfl rfl (by decide) a.block hF (by injection ha with ha; subst ha; rfl)) HPU.out.1 HPU.out.2).mono ?_
  rintro e w8 ⟨rfl, F8, hS8⟩
  replace hS : HS NoF w w8 [entSto F8 gs ⟨1000, 3, [itm D (m : Int) xs false]⟩, .blk g7 30 (ints .u8 D), .os 5 (.slice A m c) (ints .u8 xs), .os 5 (.slice (some ⟨gb, ob, none⟩) m cb) (ints .u8 xs)] := hS8
  clear hS8
  simp only [erV]
  have cbk : w8.cell? ⟨gb, ob + k0, none⟩ = some (.int .u8 x0) := by rw [← hx0.out]; exact ((hS.os 3 rfl).rd rfl).cellAt k0 (by rw [HL.out]; exact hk0s)
  obtain ⟨zs, hzs⟩ : ∃ zs, Hd (xs.set k0 ((x0 + 1) % 256) = zs) := ⟨_, hid rfl⟩
  go_wp2_with (first
    | (refine hs_loadW hS 1 rfl rfl 30 _ rfl rfl 32 infoHashS (by simp [HDL.out]) _ arrHashS rfl _ rfl ?_)
    | (go_at_call 9; refine (number_calls _ _ _ (by omega) (by omega)).mono ?_; rintro e wz ⟨rfl, rfl⟩; rw [hk0.out])
    | (refine hs_storeS hS 3 rfl rfl 5 _ _ rfl k0 rfl (.int .u8 ((x0 + 1) % 256)) rfl rfl sizeU8S (by simp [HL.out]; omega) _ rfl ?_
       clear hS cbk; intro w9 hS; rw [ints_set, hzs.out] at hS)
    | fail)
  replace hS : HS NoF w w9 [entSto F8 gs ⟨1000, 3, [itm D (m : Int) xs false]⟩, .blk g7 30 (ints .u8 D), .os 5 (.slice A m c) (ints .u8 xs), .os 5 (.slice (some ⟨gb, ob, none⟩) m cb) (ints .u8 zs)] := hS
  refine (commitH D none _ hE hS hg2 HDL.out hpos.out hB8.out HCO.out.1 HCO.out.2).mono ?_
  rintro e w10 ⟨rfl, F10, hS10⟩
  replace hS : HS NoF w w10 [entSto F10 gs ⟨1000, 3, [itm D (m : Int) xs true]⟩, .blk g7 30 (ints .u8 D), .os 5 (.slice A m c) (ints .u8 xs), .os 5 (.slice (some ⟨gb, ob, none⟩) m cb) (ints .u8 zs)] := hS10
  clear hS10
  simp only [erV]
  go_wp2_with (first
    | (refine hs_loadW hS 1 rfl rfl 30 _ rfl rfl 32 infoHashS (by simp [HDL.out]) _ arrHashS rfl _ rfl ?_)
    | fail)
  have hqc : q ≤ c := by omega
  have hqcn : (q : Int) ≤ c := by omega
  refine (getH D 0 (q : Int) (ys, none) _ hE hS hg3 HDL.out (by omega) (by omega) HGE.out touchI).mono ?_
  rintro e w11 ⟨Ac, mc, cc, rfl, hmc, hmcc, hAc, F11, hS11⟩
  have hmc' : ys.length = mc := hmc
  rw [HYL.out] at hmc'
  subst hmc'
  obtain ⟨gc, oc, rfl⟩ := ((hS11.os 1 rfl).rd rfl).at (by rw [HYL.out]; omega)
  clear hS hmc
  have hS : HS NoF w w11 [entSto F11 gs ⟨1000, 3, [itm D (m : Int) xs true]⟩, .blk g7 30 (ints .u8 D), .os 5 (.slice A m c) (ints .u8 xs), .os 5 (.slice (some ⟨gb, ob, none⟩) m cb) (ints .u8 zs), .os 5 (.slice (some ⟨gc, oc, none⟩) q cc) (ints .u8 ys)] := hS11.perm (List.Perm.cons _ (List.perm_append_comm (l₁ := [Ent.os 5 (.slice (some ⟨gc, oc, none⟩) q cc) (ints .u8 ys)]) (l₂ := [Ent.blk g7 30 (ints .u8 D), Ent.os 5 (.slice A m c) (ints .u8 xs), Ent.os 5 (.slice (some ⟨gb, ob, none⟩) m cb) (ints .u8 zs)])))
  clear hS11
  simp only [erV]
  go_wp2_with (first
    | (refine hs_loadW hS 1 rfl rfl 30 _ rfl rfl 32 infoHashS (by simp [HDL.out]) _ arrHashS rfl _ rfl ?_)
    | fail)
  have hry := ((hS.os 2 rfl).rd rfl).take q
  rw [hys.out] at hry
  refine (same_calls ys ys (some ⟨gc, oc, none⟩) A cc c q q _ HYL.out.symm HYL.out.symm ((hS.os 4 rfl).rd rfl) hry (by rw [HYL.out]; omega) (by rw [HYL.out]; omega)).mono ?_
  rintro e w12 ⟨rfl, n12, hw12⟩
  replace hS := hS.drewN n12
  rw [← hw12] at hS
  clear hw12 hry
  have hdy : decide (ys = ys) = true := by simp
  rw [hdy]
  have cc0 : w12.cell? ⟨gc, oc + 0, none⟩ = some (.int .u8 y0) := by rw [← hy0.out]; exact ((hS.os 4 rfl).rd rfl).cellAt 0 (by rw [HYL.out]; omega)
  rw [Nat.add_zero] at cc0
  obtain ⟨us, hus⟩ : ∃ us, Hd (ys.set 0 ((y0 + 1) % 256) = us) := ⟨_, hid rfl⟩
  go_wp2_with (first
    | (refine hs_loadW hS 1 rfl rfl 30 _ rfl rfl 32 infoHashS (by simp [HDL.out]) _ arrHashS rfl _ rfl ?_)
    | (refine hs_storeS hS 4 rfl rfl 5 _ _ rfl 0 rfl (.int .u8 ((y0 + 1) % 256)) rfl rfl sizeU8S (by simp [HYL.out]; omega) _ rfl ?_
       clear hS cc0; intro w13 hS; rw [ints_set, hus.out] at hS)
    | fail)
  replace hS : HS NoF w w13 [entSto F11 gs ⟨1000, 3, [itm D (m : Int) xs true]⟩, .blk g7 30 (ints .u8 D), .os 5 (.slice A m c) (ints .u8 xs), .os 5 (.slice (some ⟨gb, ob, none⟩) m cb) (ints .u8 zs), .os 5 (.slice (some ⟨gc, oc, none⟩) q cc) (ints .u8 us)] := hS
  refine (getH D 0 (q : Int) (ys, none) _ hE hS hg3 HDL.out (by omega) (by omega) HGE.out touchI).mono ?_
  rintro e w14 ⟨Ad, md, cd, rfl, hmd, hmdd, hAd, F14, hS14⟩
  have hmd' : ys.length = md := hmd
  rw [HYL.out] at hmd'
  subst hmd'
  clear hS hmd
  have hS : HS NoF w w14 [entSto F14 gs ⟨1000, 3, [itm D (m : Int) xs true]⟩, .blk g7 30 (ints .u8 D), .os 5 (.slice A m c) (ints .u8 xs), .os 5 (.slice (some ⟨gb, ob, none⟩) m cb) (ints .u8 zs), .os 5 (.slice (some ⟨gc, oc, none⟩) q cc) (ints .u8 us), .os 5 (.slice Ad q cd) (ints .u8 ys)] := hS14.perm (List.Perm.cons _ (List.perm_append_comm (l₁ := [Ent.os 5 (.slice Ad q cd) (ints .u8 ys)]) (l₂ := [Ent.blk g7 30 (ints .u8 D), Ent.os 5 (.slice A m c) (ints .u8 xs), Ent.os 5 (.slice (some ⟨gb, ob, none⟩) m cb) (ints .u8 zs), Ent.os 5 (.slice (some ⟨gc, oc, none⟩) q cc) (ints .u8 us)])))
  clear hS14
  simp only [erV]
  go_wp2_with fail
  refine (allH1 D hS rfl (by simp)).mono ?_
  rintro e w15 ⟨gl, cl, cs, rfl, hcl, hcs, _, hS15⟩
  clear hS
  have hS : HS NoF w w15 [entSto F14 gs ⟨1000, 3, [itm D (m : Int) xs true]⟩, .blk g7 30 (ints .u8 D), .os 5 (.slice A m c) (ints .u8 xs), .os 5 (.slice (some ⟨gb, ob, none⟩) m cb) (ints .u8 zs), .os 5 (.slice (some ⟨gc, oc, none⟩) q cc) (ints .u8 us), .os 5 (.slice Ad q cd) (ints .u8 ys), .blk gl 30 cs] := hS15.perm (List.Perm.cons _ (List.perm_append_comm (l₁ := [Ent.blk gl 30 cs]) (l₂ := [Ent.blk g7 30 (ints .u8 D), Ent.os 5 (.slice A m c) (ints .u8 xs), Ent.os 5 (.slice (some ⟨gb, ob, none⟩) m cb) (ints .u8 zs), Ent.os 5 (.slice (some ⟨gc, oc, none⟩) q cc) (ints .u8 us), Ent.os 5 (.slice Ad q cd) (ints .u8 ys)])))
  clear hS15
  go_wp2_with (first
    | (refine build_to rfl 30 _ rfl (ints .u8 (List.replicate 32 0)).toArray (by rw [Array.toList_map]; exact zeroHashT) ?_)
    | (refine hs_storeN hS 6 rfl rfl 30 _ _ rfl 0 rfl (ints .u8 (List.replicate 32 0)) rfl (ints_one' _ _) 32 infoHashS (by simp) (by omega) _ rfl ?_; clear hS; intro w16 hS; replace hS := hS.erase 6)
    | fail)
  replace hS : HS NoF w w16 [entSto F14 gs ⟨1000, 3, [itm D (m : Int) xs true]⟩, .blk g7 30 (ints .u8 D), .os 5 (.slice A m c) (ints .u8 xs), .os 5 (.slice (some ⟨gb, ob, none⟩) m cb) (ints .u8 zs), .os 5 (.slice (some ⟨gc, oc, none⟩) q cc) (ints .u8 us), .os 5 (.slice Ad q cd) (ints .u8 ys)] := hS
  refine (allH1 D hS rfl (by simp)).mono ?_
  rintro e w17 ⟨gm, cm, cs2, rfl, hcm, hcs2, hcc2, hS17⟩
  clear hS
  have hS : HS NoF w w17 [entSto F14 gs ⟨1000, 3, [itm D (m : Int) xs true]⟩, .blk gm 30 cs2, .blk g7 30 (ints .u8 D), .os 5 (.slice A m c) (ints .u8 xs), .os 5 (.slice (some ⟨gb, ob, none⟩) m cb) (ints .u8 zs), .os 5 (.slice (some ⟨gc, oc, none⟩) q cc) (ints .u8 us), .os 5 (.slice Ad q cd) (ints .u8 ys)] := hS17
  clear hS17
  have HCC2 := hid hcc2
  have heqd := HEQD.out
  have hdd : decide (D = D) = true := by simp
  clear hcc2
  try go_wp2_with fail
  refine wp_region_S (F := NoF) (w0 := w) (L0 := [entSto F14 gs ⟨1000, 3, [itm D (m : Int) xs true]⟩, .blk gm 30 cs2, .blk g7 30 (ints .u8 D), .os 5 (.slice A m c) (ints .u8 xs), .os 5 (.slice (some ⟨gb, ob, none⟩) m cb) (ints .u8 zs), .os 5 (.slice (some ⟨gc, oc, none⟩) q cc) (ints .u8 us), .os 5 (.slice Ad q cd) (ints .u8 ys)]) [10] []
    (fun iK u E => match iK with
      | 10 => u = .bool true ∧ E = []
      | _ => False)
    ([]) (by kernel_rfl) (by kernel_rfl) hS ?_
  show wpS _ _ _ _ _ _ _ _ _ _ [0, 1, 2, 3, 4, 5, 6, 7, 8, 9, 10, 11, 12, 13, 14, 15, 16, 17, 18, 19, 20, 21, 22, 23, 24] _
  apply wpS_read (i := 0) rfl rfl ⟨_, hS⟩ rfl -- Op.move t5
  · intro w' hT'
    simp only [List.getElem_toArray, List.getElem_cons_zero, List.getElem_cons_succ]
    go_wp2_with fail
    first | exact ⟨rfl, rfl, rfl⟩ | rfl
  apply wpS_read (i := 1) rfl rfl ⟨_, hS⟩ rfl -- Op.move t110
  · intro w' hT'
    simp only [List.getElem_toArray, List.getElem_cons_zero, List.getElem_cons_succ]
    go_wp2_with fail
    first | exact ⟨rfl, rfl, rfl⟩ | rfl
  apply wpS_read (i := 2) rfl rfl ⟨_, hS⟩ rfl -- Op.move t17
  · intro w' hT'
    simp only [List.getElem_toArray, List.getElem_cons_zero, List.getElem_cons_succ]
    go_wp2_with fail
    first | exact ⟨rfl, rfl, rfl⟩ | rfl
  apply wpS_read (i := 3) rfl rfl ⟨_, hS⟩ rfl -- Op.binOp BinOp.eql 27 t112 (const Value.nilIface) 27
  · intro w' hT'
    simp only [List.getElem_toArray, List.getElem_cons_zero, List.getElem_cons_succ]
    go_wp2_with (first
      | (refine hs_loadN hT' 1 rfl rfl 30 _ rfl 0 rfl (ints .u8 D) (fun j v hv => by rw [Nat.zero_add]; exact HCC2.out j v hv) 32 infoHashS (by simp [HDL.out]) _ arrHashS rfl _ rfl ?_)
      | (refine hs_loadW hT' 2 rfl rfl 30 _ rfl rfl 32 infoHashS (by simp [HDL.out]) _ arrHashS rfl _ rfl ?_)
      | fail)
    first | exact ⟨rfl, rfl, rfl⟩ | rfl
  apply wpS_read (i := 4) rfl rfl ⟨_, hS⟩ rfl -- Op.pick t111 t113 (const (Value.bool false))
  · intro w' hT'
    simp only [List.getElem_toArray, List.getElem_cons_zero, List.getElem_cons_succ]
    go_wp2_with fail
    first | exact ⟨rfl, rfl, rfl⟩ | rfl
  apply wpS_read (i := 5) rfl rfl ⟨_, hS⟩ rfl -- Op.move t114
  · intro w' hT'
    simp only [List.getElem_toArray, List.getElem_cons_zero, List.getElem_cons_succ]
    go_wp2_with fail
    first | exact ⟨rfl, rfl, rfl⟩ | rfl
  apply wpS_read (i := 6) rfl rfl ⟨_, hS⟩ rfl -- Op.move t16
  · intro w' hT'
    simp only [List.getElem_toArray, List.getElem_cons_zero, List.getElem_cons_succ]
    go_wp2_with fail
    first | exact ⟨rfl, rfl, rfl⟩ | rfl
  apply wpS_read (i := 7) rfl rfl ⟨_, hS⟩ rfl -- Op.move t6
  · intro w' hT'
    simp only [List.getElem_toArray, List.getElem_cons_zero, List.getElem_cons_succ]
    go_wp2_with fail
    first | exact ⟨rfl, rfl, rfl⟩ | rfl
  apply wpS_read (i := 8) rfl rfl ⟨_, hS⟩ rfl -- Op.move t13
  · intro w' hT'
    simp only [List.getElem_toArray, List.getElem_cons_zero, List.getElem_cons_succ]
    go_wp2_with fail
    first | exact ⟨rfl, rfl, rfl⟩ | rfl
  apply wpS_read (i := 9) rfl rfl ⟨_, hS⟩ rfl -- Op.slice 41 t117 none (some t118) none
  · intro w' hT'
    simp only [List.getElem_toArray, List.getElem_cons_zero, List.getElem_cons_succ]
    go_wp2_with (first
      | (refine hs_loadN hT' 1 rfl rfl 30 _ rfl 0 rfl (ints .u8 D) (fun j v hv => by rw [Nat.zero_add]; exact HCC2.out j v hv) 32 infoHashS (by simp [HDL.out]) _ arrHashS rfl _ rfl ?_)
      | (refine hs_loadW hT' 2 rfl rfl 30 _ rfl rfl 32 infoHashS (by simp [HDL.out]) _ arrHashS rfl _ rfl ?_)
      | fail)
    first | exact ⟨rfl, rfl, rfl⟩ | rfl
  refine wpS_soft (i := 10) rfl rfl rfl (Nat.le_of_ble_eq_true rfl) ?_ ?_ -- Op.call { value (Operand.func 22), args := #[t116, t119], argTypes :
  · intro w' hT
    simp only [List.getElem_toArray, List.getElem_cons_zero, List.getElem_cons_succ]
    have hdy : decide (ys = ys) = true := by simp
    have hry := ((hT.os 3 rfl).rd rfl).take q
    rw [hys.out] at hry
    go_wp2_with (first
      | (go_at_call 22; refine (same_calls ys ys Ad A cd c q q _ HYL.out.symm HYL.out.symm ((hT.os 6 rfl).rd rfl) hry (by rw [HYL.out]; omega) (by rw [HYL.out]; omega)).mono ?_; rintro e wq ⟨rfl, nq, hwq⟩; rw [hdy])
      | fail)
    exact SoftP.mk' (.bool true) ([]) rfl (⟨rfl, rfl⟩) (hT.drewN nq) (below_drewN (Below.refl _ _) nq) (fun _ h => by cases h)
  intro u10 E10 hK10
  obtain ⟨rfl, rfl⟩ := hK10
  simp only [Act.put, List.setIfInBounds_toArray, List.set_cons_zero, List.set_cons_succ]
  apply wpS_read (i := 11) rfl rfl ⟨_, hS⟩ rfl -- Op.pick t115 t120 (const (Value.bool false))
  · intro w' hT'
    simp only [List.getElem_toArray, List.getElem_cons_zero, List.getElem_cons_succ]
    go_wp2_with fail
    first | exact ⟨rfl, rfl, rfl⟩ | rfl
  apply wpS_read (i := 12) rfl rfl ⟨_, hS⟩ rfl -- Op.move t121
  · intro w' hT'
    simp only [List.getElem_toArray, List.getElem_cons_zero, List.getElem_cons_succ]
    go_wp2_with fail
    first | exact ⟨rfl, rfl, rfl⟩ | rfl
  apply wpS_read (i := 13) rfl rfl ⟨_, hS⟩ rfl -- Op.move t19
  · intro w' hT'
    simp only [List.getElem_toArray, List.getElem_cons_zero, List.getElem_cons_succ]
    go_wp2_with fail
    first | exact ⟨rfl, rfl, rfl⟩ | rfl
  apply wpS_read (i := 14) rfl rfl ⟨_, hS⟩ rfl -- Op.call { builtin len, args := #[t123], argTypes := #[37] }
  · intro w' hT'
    simp only [List.getElem_toArray, List.getElem_cons_zero, List.getElem_cons_succ]
    go_wp2_with fail
    first | exact ⟨rfl, rfl, rfl⟩ | rfl
  apply wpS_read (i := 15) rfl rfl ⟨_, hS⟩ rfl -- Op.binOp BinOp.eql 3 t124 (const (1:i64)) 3
  · intro w' hT'
    simp only [List.getElem_toArray, List.getElem_cons_zero, List.getElem_cons_succ]
    go_wp2_with (first
      | (refine hs_loadN hT' 1 rfl rfl 30 _ rfl 0 rfl (ints .u8 D) (fun j v hv => by rw [Nat.zero_add]; exact HCC2.out j v hv) 32 infoHashS (by simp [HDL.out]) _ arrHashS rfl _ rfl ?_)
      | (refine hs_loadW hT' 2 rfl rfl 30 _ rfl rfl 32 infoHashS (by simp [HDL.out]) _ arrHashS rfl _ rfl ?_)
      | fail)
    first | exact ⟨rfl, rfl, rfl⟩ | rfl
  apply wpS_read (i := 16) rfl rfl ⟨_, hS⟩ rfl -- Op.pick t122 t125 (const (Value.bool false))
  · intro w' hT'
    simp only [List.getElem_toArray, List.getElem_cons_zero, List.getElem_cons_succ]
    go_wp2_with fail
    first | exact ⟨rfl, rfl, rfl⟩ | rfl
  apply wpS_read (i := 17) rfl rfl ⟨_, hS⟩ rfl -- Op.move t126
  · intro w' hT'
    simp only [List.getElem_toArray, List.getElem_cons_zero, List.getElem_cons_succ]
    go_wp2_with fail
    first | exact ⟨rfl, rfl, rfl⟩ | rfl
  apply wpS_read (i := 18) rfl rfl ⟨_, hS⟩ rfl -- Op.move t19
  · intro w' hT'
    simp only [List.getElem_toArray, List.getElem_cons_zero, List.getElem_cons_succ]
    go_wp2_with fail
    first | exact ⟨rfl, rfl, rfl⟩ | rfl
  apply wpS_read (i := 19) rfl rfl ⟨_, hS⟩ rfl -- Op.indexAddr 37 t128 (const (0:i64))
  · intro w' hT'
    simp only [List.getElem_toArray, List.getElem_cons_zero, List.getElem_cons_succ]
    go_wp2_with fail
    first | exact ⟨rfl, rfl, rfl⟩ | rfl
  apply wpS_read (i := 20) rfl rfl ⟨_, hS⟩ rfl -- Op.load 30 t129
  · intro w' hT'
    simp only [List.getElem_toArray, List.getElem_cons_zero, List.getElem_cons_succ]
    go_wp2_with (first
      | (refine hs_loadN hT' 1 rfl rfl 30 _ rfl 0 rfl (ints .u8 D) (fun j v hv => by rw [Nat.zero_add]; exact HCC2.out j v hv) 32 infoHashS (by simp [HDL.out]) _ arrHashS rfl _ rfl ?_)
      | (refine hs_loadW hT' 2 rfl rfl 30 _ rfl rfl 32 infoHashS (by simp [HDL.out]) _ arrHashS rfl _ rfl ?_)
      | fail)
    first | exact ⟨rfl, rfl, rfl⟩ | rfl
  apply wpS_read (i := 21) rfl rfl ⟨_, hS⟩ rfl -- Op.load 30 t7
  · intro w' hT'
    simp only [List.getElem_toArray, List.getElem_cons_zero, List.getElem_cons_succ]
    go_wp2_with (first
      | (refine hs_loadN hT' 1 rfl rfl 30 _ rfl 0 rfl (ints .u8 D) (fun j v hv => by rw [Nat.zero_add]; exact HCC2.out j v hv) 32 infoHashS (by simp [HDL.out]) _ arrHashS rfl _ rfl ?_)
      | (refine hs_loadW hT' 2 rfl rfl 30 _ rfl rfl 32 infoHashS (by simp [HDL.out]) _ arrHashS rfl _ rfl ?_)
      | fail)
    first | exact ⟨rfl, rfl, rfl⟩ | rfl
  apply wpS_read (i := 22) rfl rfl ⟨_, hS⟩ rfl -- Op.binOp BinOp.eql 30 t130 t131 30
  · intro w' hT'
    simp only [List.getElem_toArray, List.getElem_cons_zero, List.getElem_cons_succ]
    go_wp2_with (first
      | (refine hs_loadN hT' 1 rfl rfl 30 _ rfl 0 rfl (ints .u8 D) (fun j v hv => by rw [Nat.zero_add]; exact HCC2.out j v hv) 32 infoHashS (by simp [HDL.out]) _ arrHashS rfl _ rfl ?_)
      | (refine hs_loadW hT' 2 rfl rfl 30 _ rfl rfl 32 infoHashS (by simp [HDL.out]) _ arrHashS rfl _ rfl ?_)
      | fail)
    first | exact ⟨rfl, rfl, rfl⟩ | rfl
  apply wpS_read (i := 23) rfl rfl ⟨_, hS⟩ rfl -- Op.pick t127 t132 (const (Value.bool false))
  · intro w' hT'
    simp only [List.getElem_toArray, List.getElem_cons_zero, List.getElem_cons_succ]
    go_wp2_with fail
    first | exact ⟨rfl, rfl, rfl⟩ | rfl
  apply wpS_read (i := 24) rfl rfl ⟨_, hS⟩ rfl -- Op.assign t133
  · intro w' hT'
    simp only [List.getElem_toArray, List.getElem_cons_zero, List.getElem_cons_succ]
    go_wp2_with fail
    first | exact ⟨rfl, rfl, rfl⟩ | rfl
  refine wpS_end ?_
  intro wz hT
  try dsimp only

  go_wp2_with fail
  go_ret
  exact ⟨rfl, hT.bel⟩
end Go.Proofs.YtinpilfnnmkpoaaDoor
