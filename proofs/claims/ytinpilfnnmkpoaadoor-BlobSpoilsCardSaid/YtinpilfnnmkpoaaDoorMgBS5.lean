import Derived.Test.YtinpilfnnmkpoaaDoorProg
import Derived.Deep.QuietTactic
import Derived.BigQuiet
import Derived.LaidEqlPtr
import Derived.Test.YtinpilfnnmkpoaaDoorMgBS0
import Derived.Test.YtinpilfnnmkpoaaDoorMgBS1
import Derived.Test.YtinpilfnnmkpoaaDoorMgBS2
import Derived.Test.YtinpilfnnmkpoaaDoorMgBS3
import Derived.Test.YtinpilfnnmkpoaaDoorMgBS4
set_option linter.unusedSimpArgs false
set_option linter.unusedVariables false
/- The store's Commit. -/
namespace Go.Proofs.YtinpilfnnmkpoaaDoor
open Go.RowKit Go.Cour
def commitOf (id : List Int) (l : List Item) : Option Nat := match l[posOf id l]? with
  | none => some 13
  | some x => if x.done = true then none else if (x.b.length : Int) < x.n then some 16 else if shaOf x.b = id then none else some 15
def commitL (id : List Int) (l : List Item) : List Item := match l[posOf id l]? with
  | none => l
  | some x => l.set (posOf id l) { x with age := 0, done := x.done || (commitOf id l == none) }
theorem commitL_err {id : List Int} {l : List Item} (h : commitOf id l ≠ none) : commitL id l = touch id l := by
  unfold commitL touch
  cases hx : l[posOf id l]? with
  | none => rfl
  | some x =>
    cases hc : commitOf id l with
    | none => exact absurd hc h
    | some k => simp
theorem commitL_done {id : List Int} {l : List Item} {x : Item} (hx : l[posOf id l]? = some x) (hd : x.done = true) : commitL id l = touch id l := by
  unfold commitL touch
  rw [hx]; simp [hd]
theorem commitL_ok {id : List Int} {l : List Item} {x : Item} (hx : l[posOf id l]? = some x) (h : commitOf id l = none) : commitL id l = l.set (posOf id l) { x with age := 0, done := true } := by
  unfold commitL
  rw [hx]; simp [h]
theorem itemC_done (x : Item) (vb : Value) (h : x.id.length = 32) (d : Bool) : (itemC x vb).set 34 (.bool d) = itemC { x with done := d } vb := by
  have hl : (ints .u8 x.id).length = 32 := by simp [h]
  simp only [itemC]
  rw [List.set_append_right _ _ (by omega), hl]
  rfl
theorem os_cell {w : World} {e : TypeId} {g o n c j : Nat} {cs : List Value} {u : Value} (h : OwnS w e (.slice (some ⟨g, o, none⟩) n c) cs) (hj : cs[j]? = some u) : w.cell? ⟨g, o + j, none⟩ = some u := by
  obtain ⟨A, c', hv, _, _, _, _, hc⟩ := h.parts
  injection hv with hv
  obtain ⟨g', o', he, hcell⟩ := hc j u hj
  rw [← hv] at he
  injection he with he; injection he with h1 h2
  subst h1 h2
  exact hcell
theorem one_list {w : World} {g o i m c : Nat} {A : Option Addr} {xs bs : List Int} (hi : [xs][i]? = some bs) (hc : w.cell? ⟨g, o + 0, none⟩ = some (.slice A m c)) (hm : xs.length = m) (hmc : m ≤ c) (hr : Rd w A .u8 xs) :
    ∃ (Ai : Option Addr) (ni ci : Nat), w.cell? ⟨g, o + i, none⟩ = some (.slice Ai ni ci) ∧ bs.length = ni ∧ ni ≤ ci ∧ Rd w Ai .u8 bs := by
  cases i with
  | zero => simp at hi; subst hi; exact ⟨A, m, c, hc, hm, hmc, hr⟩
  | succ i => simp at hi
theorem undLB : Tryd.prog.underlying 79 = some (.slice 41) := by kernel_rfl
theorem zeroBytesS : (((Tryd.prog.info? 41).bind (·.zero)).map (·.cells.size)) = some 1 := by kernel_rfl
set_option maxHeartbeats 2000000 in
set_option maxRecDepth 100000 in
theorem commit_calls {w : World} {P : Nat → Addr} {B : Nat} {F F2 : Nat → Prop} {gs : Nat} {st : StoreD} {v : Value} {vs : List Value} (id : List Int) (hE : ErrsAt w P B) (hBw : B ≤ w.heap.size) (hF : ∀ k, F k → B ≤ k) (h : StoreAt w F gs st v vs F2) (hG : Good st) (hid' : id.length = 32)
    (hk : posOf id st.l < st.l.length) (hB8 : ∀ x ∈ st.l, ∀ b ∈ x.b, B8 b) :
    Calls Tryd.prog 21 #[.pointer (some ⟨gs, 0, none⟩), .agg (ints .u8 id).toArray] w fun e w' => e = .returned (erV P (commitOf id st.l)) ∧ Becomes w F gs w' { st with l := commitL id st.l } := by
  have HI := hid hid'
  have H := hid h
  have HLEN := hid (show st.l.length ≤ 1000000 by have := hG.len; omega)
  clear hid'
  obtain ⟨x, g, vb, hx, hu, hxl, hb, ho', hFg, hFb, hgs, hvg, hvb, hback⟩ := h.focus _ hk
  have hxn := hG.n x (List.mem_of_getElem? hx)
  have hxb := hG.b x (List.mem_of_getElem? hx)
  have HX8 := hid (hB8 x (List.mem_of_getElem? hx))
  have hr := hid (show vs.getD (posOf id st.l) (.pointer none) = .pointer (some ⟨g, 0, none⟩) by rw [List.getD_eq_getElem?_getD, hu]; rfl)
  have HT := hid (touch_some hx)
  have HX := hid hx
  have HK := hid hk
  have HU := hid hu
  clear hback ho' hgs hvg hvb hFg hFb hk h hb hu hB8
  obtain ⟨xb, hbs⟩ : ∃ xb, Hd (x.b = xb) := ⟨_, ⟨rfl⟩⟩
  obtain ⟨m, hm⟩ : ∃ m, Hd (xb.length = m) := ⟨_, ⟨rfl⟩⟩
  obtain ⟨xn, hxnn⟩ : ∃ xn, Hd (x.n = xn) := ⟨_, ⟨rfl⟩⟩
  have hgo : Hd (commitOf id st.l = if x.done = true then none else if (m : Int) < xn then some 16 else if shaOf xb = id then none else some 15) := hid (by unfold commitOf; rw [hx]; simp only [hbs.out, hm.out, hxnn.out])
  rw [hbs.out, hm.out, hxnn.out] at hxb
  rw [hbs.out] at HX8
  rw [hxnn.out] at hxn
  clear hx
  by_cases hd : x.done = true
  · rw [if_pos hd] at hgo
    have hpl := hid (commitL_done HX.out hd)
    rw [hgo.out, hpl.out]
    go_enter Tryd.func21, Tryd.ntmps21
    go_wp2_with (first
      | (refine box_blk rfl 30 _ rfl _ rfl (ints .u8 id) rfl ?_; intro gb w1 hgb hbb hB1 hs1
         clear hs1)
      | (refine load_blk rfl 30 _ rfl gb rfl 30 _ hbb 32 5 arrHash (by simp [ints, HI.out]) infoHash ?_)
      | (go_at_call 27; refine (named_calls id (H.out.below hB1) HI.out HLEN.out).mono ?_
         rintro e w2 ⟨he, ⟨F', F2', hst, hsub⟩, hup⟩
         rw [hr.out] at he
         subst he
         have hu2 := (Upd.of_below hB1 F).trans hup (fun j _ hj => hj)
         have hsub2 : Sub F' F w := fun k hk => (hsub k hk).imp (fun h => h) (fun h => by have := hB1.size; omega)
         have e16 := (hE.below (hu2.below hBw hF)).errs.cell 16 (by omega)
         have e1 := (hE.below (hu2.below hBw hF)).errs.cell 15 (by omega)
         simp only [globs, List.getD_cons_zero, List.getD_cons_succ] at e16 e1
         obtain ⟨x2, g2, vb2, hx2, hv2, hxl2, hb2, ho2, hFg2, hFb2, hgs2, hvg2, hvb22, hbk2⟩ := hst.focus (posOf id st.l) (by rw [HT.out]; simpa using HK.out)
         rw [HU.out] at hv2
         injection hv2 with hv2; injection hv2 with hv2; injection hv2 with hv2; injection hv2 with hv2
         subst hv2
         have hx3 : x2 = { x with age := 0 } := by
           rw [HT.out, List.getElem?_set_self HK.out] at hx2
           injection hx2 with hx2; exact hx2.symm
         obtain ⟨A2, c2, hvb2, hc2, hA2, hr2⟩ := ho2.parts
         have hb3 : x2.b = xb := by rw [hx3]; exact hbs.out
         rw [hb3] at hvb2 hc2 hr2
         rw [hm.out] at hvb2 hc2
         have c33 : w2.cell? ⟨g, 33, none⟩ = some (.slice A2 m c2) := by rw [hb2.cell]; have := itemC_at x2 vb2 hxl2 1; rw [this]; simp [hvb2]
         have c34 : w2.cell? ⟨g, 34, none⟩ = some (.bool x.done) := by rw [hb2.cell]; have := itemC_at x2 vb2 hxl2 2; rw [this]; simp [hx3]
         have c32 : w2.cell? ⟨g, 32, none⟩ = some (.int .i64 xn) := by rw [hb2.cell]; have := itemC_at x2 vb2 hxl2 0; rw [this]; simp [hx3, hxnn.out]
         have HB2 := hid hb2
         have HO2 := hid ho2
         have HX2 := hid hx3
         have HB3 := hid hb3
         replace hvb2 := hid hvb2
         have HR2 := hid hr2
         have HA2 := hid hA2
         have HGB := hid (hbb.upd hup (fun hf => by have := H.out.lt gb hf; omega))
         clear hb2 ho2 hx2 hx3 hb3 hbb hr2 hA2 hgs2 hvg2 hvb22)
      | fail)
    go_wp2_with fail
    go_ret
    exact ⟨rfl, F', v, vs, F2', hst, hsub2, hu2⟩
  · have hd2 : x.done = false := by simpa using hd
    rw [if_neg hd] at hgo
    by_cases hlt : (m : Int) < xn
    · rw [if_pos hlt] at hgo
      have hpl := hid (commitL_err (id := id) (l := st.l) (by rw [hgo.out]; simp))
      rw [hgo.out, hpl.out]
      go_enter Tryd.func21, Tryd.ntmps21
      go_wp2_with (first
        | (refine box_blk rfl 30 _ rfl _ rfl (ints .u8 id) rfl ?_; intro gb w1 hgb hbb hB1 hs1
           clear hs1)
        | (refine load_blk rfl 30 _ rfl gb rfl 30 _ hbb 32 5 arrHash (by simp [ints, HI.out]) infoHash ?_)
        | (go_at_call 27; refine (named_calls id (H.out.below hB1) HI.out HLEN.out).mono ?_
           rintro e w2 ⟨he, ⟨F', F2', hst, hsub⟩, hup⟩
           rw [hr.out] at he
           subst he
           have hu2 := (Upd.of_below hB1 F).trans hup (fun j _ hj => hj)
           have hsub2 : Sub F' F w := fun k hk => (hsub k hk).imp (fun h => h) (fun h => by have := hB1.size; omega)
           have e16 := (hE.below (hu2.below hBw hF)).errs.cell 16 (by omega)
           have e1 := (hE.below (hu2.below hBw hF)).errs.cell 15 (by omega)
           simp only [globs, List.getD_cons_zero, List.getD_cons_succ] at e16 e1
           obtain ⟨x2, g2, vb2, hx2, hv2, hxl2, hb2, ho2, hFg2, hFb2, hgs2, hvg2, hvb22, hbk2⟩ := hst.focus (posOf id st.l) (by rw [HT.out]; simpa using HK.out)
           rw [HU.out] at hv2
           injection hv2 with hv2; injection hv2 with hv2; injection hv2 with hv2; injection hv2 with hv2
           subst hv2
           have hx3 : x2 = { x with age := 0 } := by
             rw [HT.out, List.getElem?_set_self HK.out] at hx2
             injection hx2 with hx2; exact hx2.symm
           obtain ⟨A2, c2, hvb2, hc2, hA2, hr2⟩ := ho2.parts
           have hb3 : x2.b = xb := by rw [hx3]; exact hbs.out
           rw [hb3] at hvb2 hc2 hr2
           rw [hm.out] at hvb2 hc2
           have c33 : w2.cell? ⟨g, 33, none⟩ = some (.slice A2 m c2) := by rw [hb2.cell]; have := itemC_at x2 vb2 hxl2 1; rw [this]; simp [hvb2]
           have c34 : w2.cell? ⟨g, 34, none⟩ = some (.bool x.done) := by rw [hb2.cell]; have := itemC_at x2 vb2 hxl2 2; rw [this]; simp [hx3]
           have c32 : w2.cell? ⟨g, 32, none⟩ = some (.int .i64 xn) := by rw [hb2.cell]; have := itemC_at x2 vb2 hxl2 0; rw [this]; simp [hx3, hxnn.out]
           have HB2 := hid hb2
           have HO2 := hid ho2
           have HX2 := hid hx3
           have HB3 := hid hb3
           replace hvb2 := hid hvb2
           have HR2 := hid hr2
           have HA2 := hid hA2
           have HGB := hid (hbb.upd hup (fun hf => by have := H.out.lt gb hf; omega))
           clear hb2 ho2 hx2 hx3 hb3 hbb hr2 hA2 hgs2 hvg2 hvb22)
        | fail)
      go_quiet (fail)
      go_wp2_with fail
      go_ret
      exact ⟨rfl, F', v, vs, F2', hst.below (below_drewN (Below.refl _ _) _), hsub2, hu2.drewN _⟩
    · rw [if_neg hlt] at hgo
      have hlt2 : xn ≤ (m : Int) := by omega
      obtain ⟨ds, hds⟩ : ∃ ds, Hd (shaOf xb = ds) := ⟨_, hid rfl⟩
      have HDL : Hd (ds.length = 32) := hid (hds.out ▸ shaOf_length xb)
      rw [hds.out] at hgo
      have HEQ := hid fun w => run_equalIn_ints (P := Tryd.prog) w 9998 30 5 32 .u8 arrHash undU8B sizeU8B ds id HDL.out HI.out
      have hpos : Hd (some ⟨0, 0, none⟩ = (some ⟨0, 0, none⟩ : Option Addr)) := hid rfl
      by_cases hde : ds = id
      · rw [if_pos hde] at hgo
        have hpl := hid (commitL_ok HX.out hgo.out)
        rw [hgo.out, hpl.out]
        have hdd : decide (ds = id) = true := by simpa using hde
        clear hde
        go_enter Tryd.func21, Tryd.ntmps21
        go_wp2_with (first
          | (refine box_blk rfl 30 _ rfl _ rfl (ints .u8 id) rfl ?_; intro gb w1 hgb hbb hB1 hs1
             clear hs1)
          | (refine load_blk rfl 30 _ rfl gb rfl 30 _ hbb 32 5 arrHash (by simp [ints, HI.out]) infoHash ?_)
          | (go_at_call 27; refine (named_calls id (H.out.below hB1) HI.out HLEN.out).mono ?_
             rintro e w2 ⟨he, ⟨F', F2', hst, hsub⟩, hup⟩
             rw [hr.out] at he
             subst he
             have hu2 := (Upd.of_below hB1 F).trans hup (fun j _ hj => hj)
             have hsub2 : Sub F' F w := fun k hk => (hsub k hk).imp (fun h => h) (fun h => by have := hB1.size; omega)
             have e16 := (hE.below (hu2.below hBw hF)).errs.cell 16 (by omega)
             have e1 := (hE.below (hu2.below hBw hF)).errs.cell 15 (by omega)
             simp only [globs, List.getD_cons_zero, List.getD_cons_succ] at e16 e1
             obtain ⟨x2, g2, vb2, hx2, hv2, hxl2, hb2, ho2, hFg2, hFb2, hgs2, hvg2, hvb22, hbk2⟩ := hst.focus (posOf id st.l) (by rw [HT.out]; simpa using HK.out)
             rw [HU.out] at hv2
             injection hv2 with hv2; injection hv2 with hv2; injection hv2 with hv2; injection hv2 with hv2
             subst hv2
             have hx3 : x2 = { x with age := 0 } := by
               rw [HT.out, List.getElem?_set_self HK.out] at hx2
               injection hx2 with hx2; exact hx2.symm
             obtain ⟨A2, c2, hvb2, hc2, hA2, hr2⟩ := ho2.parts
             have hb3 : x2.b = xb := by rw [hx3]; exact hbs.out
             rw [hb3] at hvb2 hc2 hr2
             rw [hm.out] at hvb2 hc2
             have c33 : w2.cell? ⟨g, 33, none⟩ = some (.slice A2 m c2) := by rw [hb2.cell]; have := itemC_at x2 vb2 hxl2 1; rw [this]; simp [hvb2]
             have c34 : w2.cell? ⟨g, 34, none⟩ = some (.bool x.done) := by rw [hb2.cell]; have := itemC_at x2 vb2 hxl2 2; rw [this]; simp [hx3]
             have c32 : w2.cell? ⟨g, 32, none⟩ = some (.int .i64 xn) := by rw [hb2.cell]; have := itemC_at x2 vb2 hxl2 0; rw [this]; simp [hx3, hxnn.out]
             have HB2 := hid hb2
             have HO2 := hid ho2
             have HX2 := hid hx3
             have HB3 := hid hb3
             replace hvb2 := hid hvb2
             have HR2 := hid hr2
             have HA2 := hid hA2
             have HGB := hid (hbb.upd hup (fun hf => by have := H.out.lt gb hf; omega))
             clear hb2 ho2 hx2 hx3 hb3 hbb hr2 hA2 hgs2 hvg2 hvb22)
          | fail)
        go_quiet (fail)
        rename_i nq
        go_wp2_with fail
        have hS : HS NoF w2 (w2.drewN nq) [] := (HS.start NoF w2).drewN nq
        have HBK := hid hbk2
        have heq := HEQ.out
        clear hbk2
        try go_wp2_with fail
        refine wp_region_S (F := NoF) (w0 := w2) (L0 := []) [] [4, 5]
          (fun iK u E => match iK with
            | _ => False)
          ([]) (by kernel_rfl) (by kernel_rfl) hS ?_
        show wpS _ _ _ _ _ _ _ _ _ _ [0, 1, 2, 3, 4, 5, 6, 7, 8] _
        apply wpS_read (i := 0) rfl rfl ⟨_, hS⟩ rfl -- Op.move t5
        · intro w' hT'
          simp only [List.getElem_toArray, List.getElem_cons_zero, List.getElem_cons_succ]
          go_wp2_with fail
          first | exact ⟨rfl, rfl, rfl⟩ | rfl
        apply wpS_read (i := 1) rfl rfl ⟨_, hS⟩ rfl -- Op.nilCheck t31
        · intro w' hT'
          simp only [List.getElem_toArray, List.getElem_cons_zero, List.getElem_cons_succ]
          go_wp2_with fail
          first | exact ⟨rfl, rfl, rfl⟩ | rfl
        apply wpS_read (i := 2) rfl rfl ⟨_, hS⟩ rfl -- Op.fieldAddr 62 t32 2
        · intro w' hT'
          simp only [List.getElem_toArray, List.getElem_cons_zero, List.getElem_cons_succ]
          go_wp2_with fail
          first | exact ⟨rfl, rfl, rfl⟩ | rfl
        apply wpS_read (i := 3) rfl rfl ⟨_, hS⟩ rfl -- Op.load 41 t33
        · intro w' hT'
          simp only [List.getElem_toArray, List.getElem_cons_zero, List.getElem_cons_succ]
          have k33 := hT'.oldCell c33 (fun h => h)
          go_wp2_with (first
            | (refine load_blk rfl 30 _ rfl gb rfl 30 _ (hT'.oldBlk HGB.out (fun h => h)) 32 5 arrHash (by simp [ints, HI.out]) infoHash ?_)
            | fail)
          first | exact ⟨rfl, rfl, rfl⟩ | rfl
        refine wpS_hard (i := 4) rfl rfl ?_ -- Op.buildSlice 79 1 #[(0, t34)]
        intro w4 hT
        simp only [List.getElem_toArray, List.getElem_cons_zero, List.getElem_cons_succ]
        go_wp2_with (first
          | (refine hs_one hT rfl 79 41 _ rfl undLB sizeBytesS zeroBytesS (.slice A2 m c2) rfl rfl _ rfl ?_; clear hT; intro go wo hgo hBo hT)
          | fail)
        refine HardP.mk' ([.os 41 (.slice (some ⟨go, 0, none⟩) 1 1) [.slice A2 m c2]]) rfl ?_ ?_
        · exact hT
        clear hT
        clear hgo hBo
        refine wpS_hard (i := 5) rfl rfl ?_ -- Op.call { value (Operand.func 34), args := #[t35], argTypes := #[79]
        intro w5 hT
        replace hT : HS NoF w2 w5 [.os 41 (.slice (some ⟨go, 0, none⟩) 1 1) [.slice A2 m c2]] := hT
        simp only [List.getElem_toArray, List.getElem_cons_zero, List.getElem_cons_succ]
        go_wp2_with (first
          | (go_at_call 34; refine (sum_calls [xb] 1 1 (some ⟨go, 0, none⟩) _ rfl (.inr ⟨go, 0, rfl, fun i bs hi => one_list hi (os_cell (hT.os 0 rfl) rfl) hm.out hc2 (hT.oldRd HR2.out (fun _ _ _ h => h))⟩) (fun bs hbs => by simp at hbs; subst hbs; exact HX8.out) (by simp; have := hm.out; omega) (by decide)).mono ?_; rintro e wz ⟨rfl, hB⟩; rw [show [xb].flatten = xb from by simp, hds.out])
          | fail)
        refine HardP.mk' ([.os 41 (.slice (some ⟨go, 0, none⟩) 1 1) [.slice A2 m c2]]) rfl ?_ ?_
        · exact hT.below hB
        clear hT
        clear hB
        apply wpS_read (i := 6) rfl rfl ⟨_, hS⟩ rfl -- Op.load 30 t3
        · intro w' hT'
          simp only [List.getElem_toArray, List.getElem_cons_zero, List.getElem_cons_succ]
          have k33 := hT'.oldCell c33 (fun h => h)
          go_wp2_with (first
            | (refine load_blk rfl 30 _ rfl gb rfl 30 _ (hT'.oldBlk HGB.out (fun h => h)) 32 5 arrHash (by simp [ints, HI.out]) infoHash ?_)
            | fail)
          first | exact ⟨rfl, rfl, rfl⟩ | rfl
        apply wpS_read (i := 7) rfl rfl ⟨_, hS⟩ rfl -- Op.binOp BinOp.neq 30 t36 t37 30
        · intro w' hT'
          simp only [List.getElem_toArray, List.getElem_cons_zero, List.getElem_cons_succ]
          go_wp2_with (first
            | (refine load_blk rfl 30 _ rfl gb rfl 30 _ (hT'.oldBlk HGB.out (fun h => h)) 32 5 arrHash (by simp [ints, HI.out]) infoHash ?_)
            | fail)
          first | exact ⟨rfl, rfl, rfl⟩ | rfl
        apply wpS_read (i := 8) rfl rfl ⟨_, hS⟩ rfl -- Op.assign t38
        · intro w' hT'
          simp only [List.getElem_toArray, List.getElem_cons_zero, List.getElem_cons_succ]
          go_wp2_with fail
          first | exact ⟨rfl, rfl, rfl⟩ | rfl
        refine wpS_end ?_
        intro wz hT
        try dsimp only
        clear heq
        have hbg := hT.oldBlk HB2.out (fun h => h)
        have cd := hT.oldCell c34 (fun h => h)
        have fz := hbg.frozen 34
        go_wp2_with fail
        go_ret
        have hneg : vb2.ownBlock ≠ some g := blk_own_ne HB2.out HO2.out (by decide)
        obtain ⟨F3, F4, hst3, hsub3⟩ := HBK.out (wz.setCell ⟨g, 34, none⟩ (.bool true)) { x2 with done := true } vb2 (by rw [← itemC_done x2 vb2 hxl2]; exact hbg.set 34 _) hxl2
          ((HO2.out.kept' fun j hj => hT.old (HO2.out.lt_size j hj) (fun h => h)).setOther (fun he => hneg he.symm) _) (fun k hk => .inl hk) (fun k hk hne hno => by
            rw [Below.heap_setCell _ _ _ _ hne]; exact hT.old (hst.lt k hk) (fun h => h))
        have hl2 : (touch id st.l).set (posOf id st.l) { x2 with done := true } = st.l.set (posOf id st.l) { x with age := 0, done := true } := by rw [HT.out, HX2.out, List.set_set]
        rw [hl2] at hst3
        refine ⟨rfl, F3, v, vs, F4, hst3, fun k hk => (hsub3 k hk).elim (fun h => hsub2 k h) (fun h => .inr (Nat.le_trans hu2.size h)), ?_⟩
        exact (hu2.trans (Upd.of_below hT.bel F) (fun _ _ h => h)).trans (Upd.setCell wz ⟨g, 34, none⟩ (.bool true)) (fun j hj hjg => by
          have hjg' : j = g := hjg
          subst hjg'
          rcases hsub2 j hFg2 with h1 | h1
          · exact h1
          · omega)
      · rw [if_neg hde] at hgo
        have hpl := hid (commitL_err (id := id) (l := st.l) (by rw [hgo.out]; simp))
        rw [hgo.out, hpl.out]
        have hdd : decide (ds = id) = false := by simpa using hde
        clear hde
        go_enter Tryd.func21, Tryd.ntmps21
        go_wp2_with (first
          | (refine box_blk rfl 30 _ rfl _ rfl (ints .u8 id) rfl ?_; intro gb w1 hgb hbb hB1 hs1
             clear hs1)
          | (refine load_blk rfl 30 _ rfl gb rfl 30 _ hbb 32 5 arrHash (by simp [ints, HI.out]) infoHash ?_)
          | (go_at_call 27; refine (named_calls id (H.out.below hB1) HI.out HLEN.out).mono ?_
             rintro e w2 ⟨he, ⟨F', F2', hst, hsub⟩, hup⟩
             rw [hr.out] at he
             subst he
             have hu2 := (Upd.of_below hB1 F).trans hup (fun j _ hj => hj)
             have hsub2 : Sub F' F w := fun k hk => (hsub k hk).imp (fun h => h) (fun h => by have := hB1.size; omega)
             have e16 := (hE.below (hu2.below hBw hF)).errs.cell 16 (by omega)
             have e1 := (hE.below (hu2.below hBw hF)).errs.cell 15 (by omega)
             simp only [globs, List.getD_cons_zero, List.getD_cons_succ] at e16 e1
             obtain ⟨x2, g2, vb2, hx2, hv2, hxl2, hb2, ho2, hFg2, hFb2, hgs2, hvg2, hvb22, hbk2⟩ := hst.focus (posOf id st.l) (by rw [HT.out]; simpa using HK.out)
             rw [HU.out] at hv2
             injection hv2 with hv2; injection hv2 with hv2; injection hv2 with hv2; injection hv2 with hv2
             subst hv2
             have hx3 : x2 = { x with age := 0 } := by
               rw [HT.out, List.getElem?_set_self HK.out] at hx2
               injection hx2 with hx2; exact hx2.symm
             obtain ⟨A2, c2, hvb2, hc2, hA2, hr2⟩ := ho2.parts
             have hb3 : x2.b = xb := by rw [hx3]; exact hbs.out
             rw [hb3] at hvb2 hc2 hr2
             rw [hm.out] at hvb2 hc2
             have c33 : w2.cell? ⟨g, 33, none⟩ = some (.slice A2 m c2) := by rw [hb2.cell]; have := itemC_at x2 vb2 hxl2 1; rw [this]; simp [hvb2]
             have c34 : w2.cell? ⟨g, 34, none⟩ = some (.bool x.done) := by rw [hb2.cell]; have := itemC_at x2 vb2 hxl2 2; rw [this]; simp [hx3]
             have c32 : w2.cell? ⟨g, 32, none⟩ = some (.int .i64 xn) := by rw [hb2.cell]; have := itemC_at x2 vb2 hxl2 0; rw [this]; simp [hx3, hxnn.out]
             have HB2 := hid hb2
             have HO2 := hid ho2
             have HX2 := hid hx3
             have HB3 := hid hb3
             replace hvb2 := hid hvb2
             have HR2 := hid hr2
             have HA2 := hid hA2
             have HGB := hid (hbb.upd hup (fun hf => by have := H.out.lt gb hf; omega))
             clear hb2 ho2 hx2 hx3 hb3 hbb hr2 hA2 hgs2 hvg2 hvb22)
          | fail)
        go_quiet (fail)
        rename_i nq
        go_wp2_with fail
        have hS : HS NoF w2 (w2.drewN nq) [] := (HS.start NoF w2).drewN nq
        have HBK := hid hbk2
        have heq := HEQ.out
        clear hbk2
        try go_wp2_with fail
        refine wp_region_S (F := NoF) (w0 := w2) (L0 := []) [] [4, 5]
          (fun iK u E => match iK with
            | _ => False)
          ([]) (by kernel_rfl) (by kernel_rfl) hS ?_
        show wpS _ _ _ _ _ _ _ _ _ _ [0, 1, 2, 3, 4, 5, 6, 7, 8] _
        apply wpS_read (i := 0) rfl rfl ⟨_, hS⟩ rfl -- Op.move t5
        · intro w' hT'
          simp only [List.getElem_toArray, List.getElem_cons_zero, List.getElem_cons_succ]
          go_wp2_with fail
          first | exact ⟨rfl, rfl, rfl⟩ | rfl
        apply wpS_read (i := 1) rfl rfl ⟨_, hS⟩ rfl -- Op.nilCheck t31
        · intro w' hT'
          simp only [List.getElem_toArray, List.getElem_cons_zero, List.getElem_cons_succ]
          go_wp2_with fail
          first | exact ⟨rfl, rfl, rfl⟩ | rfl
        apply wpS_read (i := 2) rfl rfl ⟨_, hS⟩ rfl -- Op.fieldAddr 62 t32 2
        · intro w' hT'
          simp only [List.getElem_toArray, List.getElem_cons_zero, List.getElem_cons_succ]
          go_wp2_with fail
          first | exact ⟨rfl, rfl, rfl⟩ | rfl
        apply wpS_read (i := 3) rfl rfl ⟨_, hS⟩ rfl -- Op.load 41 t33
        · intro w' hT'
          simp only [List.getElem_toArray, List.getElem_cons_zero, List.getElem_cons_succ]
          have k33 := hT'.oldCell c33 (fun h => h)
          go_wp2_with (first
            | (refine load_blk rfl 30 _ rfl gb rfl 30 _ (hT'.oldBlk HGB.out (fun h => h)) 32 5 arrHash (by simp [ints, HI.out]) infoHash ?_)
            | fail)
          first | exact ⟨rfl, rfl, rfl⟩ | rfl
        refine wpS_hard (i := 4) rfl rfl ?_ -- Op.buildSlice 79 1 #[(0, t34)]
        intro w4 hT
        simp only [List.getElem_toArray, List.getElem_cons_zero, List.getElem_cons_succ]
        go_wp2_with (first
          | (refine hs_one hT rfl 79 41 _ rfl undLB sizeBytesS zeroBytesS (.slice A2 m c2) rfl rfl _ rfl ?_; clear hT; intro go wo hgo hBo hT)
          | fail)
        refine HardP.mk' ([.os 41 (.slice (some ⟨go, 0, none⟩) 1 1) [.slice A2 m c2]]) rfl ?_ ?_
        · exact hT
        clear hT
        clear hgo hBo
        refine wpS_hard (i := 5) rfl rfl ?_ -- Op.call { value (Operand.func 34), args := #[t35], argTypes := #[79]
        intro w5 hT
        replace hT : HS NoF w2 w5 [.os 41 (.slice (some ⟨go, 0, none⟩) 1 1) [.slice A2 m c2]] := hT
        simp only [List.getElem_toArray, List.getElem_cons_zero, List.getElem_cons_succ]
        go_wp2_with (first
          | (go_at_call 34; refine (sum_calls [xb] 1 1 (some ⟨go, 0, none⟩) _ rfl (.inr ⟨go, 0, rfl, fun i bs hi => one_list hi (os_cell (hT.os 0 rfl) rfl) hm.out hc2 (hT.oldRd HR2.out (fun _ _ _ h => h))⟩) (fun bs hbs => by simp at hbs; subst hbs; exact HX8.out) (by simp; have := hm.out; omega) (by decide)).mono ?_; rintro e wz ⟨rfl, hB⟩; rw [show [xb].flatten = xb from by simp, hds.out])
          | fail)
        refine HardP.mk' ([.os 41 (.slice (some ⟨go, 0, none⟩) 1 1) [.slice A2 m c2]]) rfl ?_ ?_
        · exact hT.below hB
        clear hT
        clear hB
        apply wpS_read (i := 6) rfl rfl ⟨_, hS⟩ rfl -- Op.load 30 t3
        · intro w' hT'
          simp only [List.getElem_toArray, List.getElem_cons_zero, List.getElem_cons_succ]
          have k33 := hT'.oldCell c33 (fun h => h)
          go_wp2_with (first
            | (refine load_blk rfl 30 _ rfl gb rfl 30 _ (hT'.oldBlk HGB.out (fun h => h)) 32 5 arrHash (by simp [ints, HI.out]) infoHash ?_)
            | fail)
          first | exact ⟨rfl, rfl, rfl⟩ | rfl
        apply wpS_read (i := 7) rfl rfl ⟨_, hS⟩ rfl -- Op.binOp BinOp.neq 30 t36 t37 30
        · intro w' hT'
          simp only [List.getElem_toArray, List.getElem_cons_zero, List.getElem_cons_succ]
          go_wp2_with (first
            | (refine load_blk rfl 30 _ rfl gb rfl 30 _ (hT'.oldBlk HGB.out (fun h => h)) 32 5 arrHash (by simp [ints, HI.out]) infoHash ?_)
            | fail)
          first | exact ⟨rfl, rfl, rfl⟩ | rfl
        apply wpS_read (i := 8) rfl rfl ⟨_, hS⟩ rfl -- Op.assign t38
        · intro w' hT'
          simp only [List.getElem_toArray, List.getElem_cons_zero, List.getElem_cons_succ]
          go_wp2_with fail
          first | exact ⟨rfl, rfl, rfl⟩ | rfl
        refine wpS_end ?_
        intro wz hT
        try dsimp only
        clear heq
        have ce := hT.oldCell e1 (fun h => h)
        go_wp2_with fail
        go_ret
        exact ⟨rfl, F', v, vs, F2', hst.below hT.bel, hsub2, hu2.trans (Upd.of_below hT.bel F) (fun _ _ h => h)⟩
end Go.Proofs.YtinpilfnnmkpoaaDoor
/- The store among other things side by side; the laws' content. -/
namespace Go.Proofs.YtinpilfnnmkpoaaDoor
open Go.RowKit Go.Cour
/-- A store, as one thing of memory. -/
def entSto (F : Nat → Prop) (gs : Nat) (st : StoreD) : Ent where
  F := F
  p := fun w => ∃ v vs F2, StoreAt w F gs st v vs F2
  lt := fun ⟨_, _, _, h⟩ k hk => h.lt k hk
  kept := fun ⟨v, vs, F2, h⟩ hk => ⟨v, vs, F2, h.kept hk⟩
section
variable {w0 w w' : World} {P : Nat → Addr} {F : Nat → Prop} {gs : Nat} {st st' : StoreD} {L : List Ent}
theorem stoErrs (h : HS NoF w0 w L) (hE : Errs w0 P) : ErrsAt w P w0.heap.size := (ErrsAt.of hE).below h.bel
theorem stoF (h : HS NoF w0 w (entSto F gs st :: L)) : ∀ k, F k → w0.heap.size ≤ k := fun k hk => (h.own _ (List.mem_cons_self ..) k hk).resolve_left (fun h => h)
theorem Becomes.hs (hb : Becomes w F gs w' st') (h : HS NoF w0 w (entSto F gs st :: L)) : ∃ F', HS NoF w0 w' (entSto F' gs st' :: L) := by
  obtain ⟨F', v, vs, F2, h1, h2, h3⟩ := hb
  exact ⟨F', h.upd1 0 rfl h3 (entSto F' gs st') ⟨v, vs, F2, h1⟩ h2⟩
theorem openH (id : List Int) (n : Int) (o : Option Nat) (st2 : StoreD) (hE : Errs w0 P) (h : HS NoF w0 w (entSto F gs st :: L)) (hG : Good st) (hl : id.length = 32) (h1 : openE st id n = o) (h2 : openS st id n = st2) :
    Calls Tryd.prog 11 #[.pointer (some ⟨gs, 0, none⟩), .agg (ints .u8 id).toArray, .int .i64 n] w fun e w' => e = .returned (erV P o) ∧ ∃ F', HS NoF w0 w' (entSto F' gs st2 :: L) := by
  subst h1 h2
  obtain ⟨v, vs, F2, hs⟩ := h.get (i := 0) rfl
  exact (bopen_calls id n (stoErrs h hE) h.size (stoF h) hs hG hl).mono fun e w' ⟨he, hb⟩ => ⟨he, hb.hs h⟩
theorem putH (id : List Int) (off : Int) (bs : List Int) (Ab : Option Addr) (q cb : Nat) (r : Int × Option Nat) (l2 : List Item) (hE : Errs w0 P) (h : HS NoF w0 w (entSto F gs st :: L)) (hG : Good st) (hl : id.length = 32)
    (ho : -9223372036854775808 ≤ off ∧ off < 9223372036854775808) (hq : bs.length = q) (hq2 : q ≤ 1000000) (hqc : q ≤ cb) (hAb : Ab = none → cb = 0) (hrd : Rd w Ab .u8 bs) (hsep : ∀ a, Ab = some a → bs ≠ [] → ¬ F a.block) (h1 : putOf id off bs st.l = r) (h2 : putL id off bs st.l = l2) :
    Calls Tryd.prog 19 #[.pointer (some ⟨gs, 0, none⟩), .agg (ints .u8 id).toArray, .int .i64 off, .slice Ab q cb] w fun e w' => e = .returned (.tuple #[.int .i64 r.1, erV P r.2]) ∧ ∃ F', HS NoF w0 w' (entSto F' gs { st with l := l2 } :: L) := by
  subst h1 h2
  obtain ⟨v, vs, F2, hs⟩ := h.get (i := 0) rfl
  exact (put_calls id off bs Ab q cb (stoErrs h hE) h.size (stoF h) hs hG hl ho hq hq2 hqc hAb hrd hsep).mono fun e w' ⟨he, hb⟩ => ⟨he, hb.hs h⟩
theorem getH (id : List Int) (off n : Int) (r : List Int × Option Nat) (l2 : List Item) (hE : Errs w0 P) (h : HS NoF w0 w (entSto F gs st :: L)) (hG : Good st) (hl : id.length = 32)
    (ho : -9223372036854775808 ≤ off ∧ off < 9223372036854775808) (hn : -9223372036854775808 ≤ n ∧ n < 9223372036854775808) (h1 : getOf id off n st.l = r) (h2 : touch id st.l = l2) :
    Calls Tryd.prog 20 #[.pointer (some ⟨gs, 0, none⟩), .agg (ints .u8 id).toArray, .int .i64 off, .int .i64 n] w fun e w' => ∃ A m c, e = .returned (.tuple #[.slice A m c, erV P r.2]) ∧ r.1.length = m ∧ m ≤ c ∧ (A = none → c = 0) ∧ ∃ F', HS NoF w0 w' (entSto F' gs { st with l := l2 } :: .os 5 (.slice A m c) (ints .u8 r.1) :: L) := by
  subst h1 h2
  obtain ⟨v, vs, F2, hs⟩ := h.get (i := 0) rfl
  refine (get2_calls id off n (stoErrs h hE) h.size (stoF h) hs hl (by have := hG.len; omega) (fun x hx => by have h1 := hG.b x hx; have h2 := hG.n x hx; omega) ho hn).mono fun e w' ⟨u, F', v', vs', F2', he, ho', k1, k2, k3, k4⟩ => ?_
  obtain ⟨A, c, rfl, h5, h6⟩ := ho'.partsL rfl
  refine ⟨A, _, c, he, rfl, h5, h6, F', ?_⟩
  have h7 := h.upd1 0 rfl k3 (entSto F' gs { st with l := touch id st.l }) ⟨v', vs', F2', k1⟩ k2
  have h8 : HS NoF w0 w' (.os 5 (.slice A (getOf id off n st.l).1.length c) (ints .u8 (getOf id off n st.l).1) :: entSto F' gs { st with l := touch id st.l } :: L) :=
    h7.take _ ho'.os (fun k hk => .inr (Nat.le_trans h.size (ho'.base_le k hk))) (fun f hf k hk hfk => by
      have hk' := ho'.base_le k hk
      rcases List.mem_cons.1 hf with rfl | hf
      · exact k4 k hk hfk
      · have := h.mem.lt (List.mem_cons_of_mem _ hf) k hfk; omega)
  exact h8.perm (List.Perm.swap _ _ _)
theorem statH (id : List Int) (r : Int × Bool × Option Nat) (l2 : List Item) (hE : Errs w0 P) (h : HS NoF w0 w (entSto F gs st :: L)) (hG : Good st) (hl : id.length = 32) (h1 : statOf id st.l = r) (h2 : touch id st.l = l2) :
    Calls Tryd.prog 16 #[.pointer (some ⟨gs, 0, none⟩), .agg (ints .u8 id).toArray] w fun e w' => e = .returned (.tuple #[.int .i64 r.1, .bool r.2.1, erV P r.2.2]) ∧ ∃ F', HS NoF w0 w' (entSto F' gs { st with l := l2 } :: L) := by
  subst h1 h2
  obtain ⟨v, vs, F2, hs⟩ := h.get (i := 0) rfl
  exact (stat_calls id (stoErrs h hE) h.size (stoF h) hs hl (by have := hG.len; omega)).mono fun e w' ⟨he, hb⟩ => ⟨he, hb.hs h⟩
theorem commitH (id : List Int) (o : Option Nat) (l2 : List Item) (hE : Errs w0 P) (h : HS NoF w0 w (entSto F gs st :: L)) (hG : Good st) (hl : id.length = 32) (hk : posOf id st.l < st.l.length) (hB8 : ∀ x ∈ st.l, ∀ b ∈ x.b, B8 b) (h1 : commitOf id st.l = o) (h2 : commitL id st.l = l2) :
    Calls Tryd.prog 21 #[.pointer (some ⟨gs, 0, none⟩), .agg (ints .u8 id).toArray] w fun e w' => e = .returned (erV P o) ∧ ∃ F', HS NoF w0 w' (entSto F' gs { st with l := l2 } :: L) := by
  subst h1 h2
  obtain ⟨v, vs, F2, hs⟩ := h.get (i := 0) rfl
  exact (commit_calls id (stoErrs h hE) h.size (stoF h) hs hG hl hk hB8).mono fun e w' ⟨he, hb⟩ => ⟨he, hb.hs h⟩
theorem newH (quota life : Int) (h : HS NoF w0 w L) :
    Calls Tryd.prog 10 #[.int .i64 quota, .int .i64 life] w fun e w' => ∃ gs F', e = .returned (.pointer (some ⟨gs, 0, none⟩)) ∧ HS NoF w0 w' (entSto F' gs ⟨quota, max life 1, []⟩ :: L) :=
  (bnew_calls quota life w).mono fun e w' ⟨gs, F, F2, he, h1, h2, h3⟩ => ⟨gs, F, he, h.push h3 (entSto F gs _) ⟨_, _, _, h1⟩ h2⟩
/-- The laws' content. -/
def contOf (a : Nat) : List Int := fileTo a (20 + 40 * a)
theorem contOf_length (a : Nat) : (contOf a).length = 20 + 40 * a := fileTo_length _ _
theorem contOf_B8 (a : Nat) : ∀ x ∈ contOf a, B8 x := fun x hx => by
  obtain ⟨i, _, rfl⟩ := List.mem_map.1 hx
  exact ⟨Int.emod_nonneg _ (by decide), Int.emod_lt_of_pos _ (by decide)⟩
/-- Two results: a slot, and an array that lies in a block. -/
theorem results_tmpblk {P : Program} {fn : Func} {p q : Tmp} {ty : TypeId} (h : fn.results = #[.tmp p, .cell q ty]) (tmps : Array Value) (w : World) (g : Nat) (t : TypeId) (cs : List Value) (v : Value) (n : Nat) (e : TypeId)
    (hp : tmps.getD p undef = v) (hq : tmps.getD q undef = .pointer (some ⟨g, 0, none⟩)) (hg : Blk w g t cs) (hu : P.underlying ty = some (.array n e)) (hl : cs.length = n) (hi : (P.info? ty).map (·.size) = some n) :
    (results fn tmps).run P w = .ok (.tuple #[v, .agg cs.toArray]) w := by
  have hp' : tmps[p]?.getD undef = v := by simpa using hp
  have hq' : tmps[q]?.getD undef = .pointer (some ⟨g, 0, none⟩) := by simpa using hq
  simp [results, h, hp', hq', asAddr, run_loadVar_row w g t ty cs.toArray (0, 0) _ hg hu rfl (by rw [hi]; simp [hl])]
end
set_option maxRecDepth 100000 in
theorem content_calls (a : Nat) (ha : a ≤ 1000) (w : World) :
    Calls Tryd.prog 18 #[.int .i64 (a : Int)] w fun e w' => ∃ A m c, e = .returned (.tuple #[.slice A m c, .agg (ints .u8 (shaOf (contOf a))).toArray]) ∧ (contOf a).length = m ∧ m ≤ c ∧ (A = none → c = 0) ∧ HS NoF w w' [.os 5 (.slice A m c) (ints .u8 (contOf a))] := by
  have hS := HS.start NoF w
  have HL := hid (contOf_length a)
  obtain ⟨s, hs⟩ : ∃ s : Nat, 20 + 40 * a = s := ⟨_, rfl⟩
  have e1 : 20 + 40 * (a : Int) = (s : Int) := by omega
  have hs2 : s ≤ 50000 := by omega
  have HC : Hd (fileTo (a : Int) s = contOf a) := hid (by rw [← hs]; rfl)
  have HSL := hid (shaOf_length (contOf a))
  rw [hs] at HL
  clear hs
  go_enter Tryd.func18, Tryd.ntmps18
  go_wp2_with (first
    | (refine alloc_blk rfl 30 rfl _ rfl (ints .u8 (List.replicate 32 0)) zeroHashS ?_; intro g2 w2 hga hba hBa hsa; replace hS := hS.pushBlk hBa hba hga; clear hga hba hBa hsa)
    | (go_at_call 32; refine (file_calls a s _ (by omega)).mono ?_; rintro e w3 ⟨v3, rfl, ho, hB⟩
       rw [HC.out] at ho
       obtain ⟨A, c, rfl, hc, hA⟩ := ho.partsL HL.out
       replace hS := hS.pushOwn hB ho
       clear ho hB)
    | (go_at_call 25; refine (sum1_calls (contOf a) A s c _ HL.out ((hS.os 0 rfl).rd rfl) (contOf_B8 a) (by omega)).mono ?_; rintro e w4 ⟨rfl, hB⟩; replace hS := hS.below hB; clear hB)
    | (refine hs_storeW hS 1 rfl rfl 30 _ _ rfl rfl (ints .u8 (shaOf (contOf a))) rfl (ints_one' _ _) _ infoHashS (by simp [HSL.out]) (by simp) _ rfl ?_; clear hS; intro w5 hS)
    | fail)
  exact bodyPost_ret (results_tmpblk rfl _ _ g2 _ _ _ 32 _ rfl rfl (hS.blk 1 rfl) arrHashS (by simp [HSL.out]) infoHashS) rfl ⟨A, s, c, rfl, HL.out, hc, hA, hS.sub (by simp)⟩
end Go.Proofs.YtinpilfnnmkpoaaDoor
/- A place of one's own slice written; All of a store of one. -/
namespace Go.Cour
open Go.RowKit
section
variable {P : Program} {ops : Array Oper} {rest : List Oper} {o : Oper} {a : Act} {w w0 : World} {Q : Exit → Act → World → Prop} {F : Nat → Prop} {L : List Ent}
/-- A place of one's own slice stored. -/
theorem hs_storeS (hS : HS F w0 w L) (i : Nat) {e : TypeId} {g off n c : Nat} {cs : List Value} (hi : L[i]? = some (.os e (.slice (some ⟨g, off, none⟩) n c) cs)) (hw : Region.wanted o (yielded ops a.tmps) = true) (ty : TypeId) (x y : Operand) (ho : o.op = .store ty x y)
    (j : Nat) (hx : a.eval x = .pointer (some ⟨g, off + j, none⟩)) (v : Value) (hv : a.eval y = v) (h1 : v.oneCell' = true) (hs : (P.info? ty).map (·.size) = some 1) (hj : j < cs.length) (d : Option Tmp) (hd : o.dst = d)
    (h : ∀ w', HS F w0 w' (L.set i (.os e (.slice (some ⟨g, off, none⟩) n c) (cs.set j v))) → wpList P ops Q rest (a.put d undef) w') : wpList P ops Q (o :: rest) a w := by
  subst hd
  refine wpList_step fun K hK => ?_
  rw [if_pos hw]
  have hc : v.cells = #[v] := by cases v <;> first | rfl | cases h1
  have hos := hS.os i hi
  obtain ⟨A', c', hv', _, _, _, _, hcell⟩ := hos.parts
  obtain ⟨g', o', he, hcl⟩ := hcell j cs[j] (List.getElem?_eq_getElem hj)
  injection hv' with hv1
  rw [← hv1] at he
  injection he with he; injection he with he1 he2
  subst he1 he2
  have hfz := hos.frozen rfl (off + j)
  have hrun : (storeVar ty ⟨g, off + j, none⟩ v).run P w = .ok () (w.setCell ⟨g, off + j, none⟩ v) := by
    cases hq : P.info? ty with
    | none => simp [hq] at hs
    | some z =>
      have hz : z.size = 1 := by simpa [hq] using hs
      have := run_storeVar_mid (P := P) w g (off + j) ty #[v] (fun i hi => by
        have : i = 0 := by simpa using hi
        subst this
        exact ⟨by rw [Nat.add_zero, hcl]; rfl, by rw [Nat.add_zero]; exact hfz⟩) (by simp [hq, hz]) (by simpa using h1)
      have h2 : storeVar ty ⟨g, off + j, none⟩ v = storeVar ty ⟨g, off + j, none⟩ (.agg #[v]) := by
        have e1 : (Value.agg #[v]).cells = #[v] := rfl
        unfold storeVar
        rw [hc, e1]
      rw [h2, this]
      simp [World.setCells]
  unfold Oper.wp execOp
  simp only [ho, hx, hv, Instr.storeAt, Instr.sureAddr, Sem.run_bind, Sem.run_pure, Result.andThen_ok, hrun]
  exact hK _ _ (h _ (hS.upd1 i hi ((Upd.setCell w ⟨g, off + j, none⟩ v).mono fun k _ hk => by
    have : k = g := hk
    subst this; rfl) _ (hos.set rfl j v hj) (fun k hk => .inl hk)))
end
end Go.Cour
namespace Go.Proofs.YtinpilfnnmkpoaaDoor
open Go.RowKit Go.Cour
theorem allH1 {w0 w : World} {F : Nat → Prop} {gs : Nat} {st : StoreD} {L : List Ent} (D : List Int) (h : HS NoF w0 w (entSto F gs st :: L)) (hD : idRows st.l = [ints .u8 D]) (hl1 : st.l.length ≤ 1000000) :
    Calls Tryd.prog 17 #[.pointer (some ⟨gs, 0, none⟩)] w fun e w' => ∃ (g c : Nat) (cs : List Value), e = .returned (.slice (some ⟨g, 0, none⟩) 1 c) ∧ 1 ≤ c ∧ 32 ≤ cs.length ∧ (∀ (j : Nat) (u : Value), (ints .u8 D)[j]? = some u → cs[j]? = some u) ∧ HS NoF w0 w' (entSto F gs st :: .blk g 30 cs :: L) := by
  obtain ⟨v, vs, F2, hs⟩ := h.get (i := 0) rfl
  refine (ball_calls hs hl1).mono fun e w' ⟨v', he, ho, hn, hb⟩ => ?_
  rw [hD] at ho
  obtain ⟨⟨h1, h2⟩, h3⟩ := ho
  rcases h2 with ⟨_, h2⟩ | ⟨g, cap, cur, rfl, hg, hh, hn1, hm, hs2, ht⟩
  · simp at h2
  · have hD32 : (ints .u8 D).length = 32 := h3 _ (by simp)
    have hge : w.heap.size ≤ g := hn g rfl
    have hbk : Blk w' g 30 cur.toList := by unfold Blk; simpa using hh
    have h9 := h.push hb (.blk g 30 cur.toList) hbk (fun k hk => by have : k = g := hk; omega)
    refine ⟨g, cap, cur.toList, he, hn1, ?_, fun j u hu => ?_, h9.perm (List.Perm.swap _ _ _)⟩
    · simp at hn1
      have : 1 * 32 ≤ cap * 32 := Nat.mul_le_mul_right _ hn1
      simp; omega
    · have hj := (List.getElem?_eq_some_iff.1 hu).1
      have h4 : (ints .u8 D)[j]? = (List.take (1 * 32) cur.toList)[j]? := by rw [show (1 * 32) = [ints .u8 D].length * 32 from rfl, ht]; simp
      rw [hu, List.getElem?_take, if_pos (by omega)] at h4
      exact h4.symm
end Go.Proofs.YtinpilfnnmkpoaaDoor
/- SameBytes, Bytes: lists of bytes held against each other, copied. -/
namespace Go.Proofs.YtinpilfnnmkpoaaDoor
open Go.RowKit Go.Cour
theorem ext_rd {xs ys : List Int} (hl : xs.length = ys.length) (h : ∀ i, i < xs.length → rd xs i = rd ys i) : xs = ys := by
  apply List.ext_getElem hl
  intro i h1 h2
  have := h i h1
  simpa [rd, h1, h2] using this
set_option maxHeartbeats 2000000 in
set_option maxRecDepth 100000 in
theorem same_calls (xs ys : List Int) (A B : Option Addr) (c d m n : Nat) (w : World) (hm : m = xs.length) (hn : n = ys.length) (hx : Rd w A .u8 xs) (hy : Rd w B .u8 ys) (hl : xs.length ≤ 1000000000) (hl' : ys.length ≤ 1000000000) :
    Calls Tryd.prog 22 #[.slice A m c, .slice B n d] w fun e w' => e = .returned (.bool (decide (xs = ys))) ∧ ∃ q, w' = w.drewN q := by
  subst hm hn
  by_cases he : xs.length = ys.length
  · have HE := hid he
    have hb : ((xs.length : Int) == (ys.length : Int)) = true := by rw [beq_iff_eq]; omega
    have hb' : (xs.length == ys.length) = true := by rw [beq_iff_eq]; omega
    obtain ⟨n, hnx⟩ : ∃ n, Hd (n = xs.length) := ⟨_, hid rfl⟩
    rw [← show n = ys.length by rw [hnx.out]; exact he] at hl' ⊢
    rw [← hnx.out] at hl ⊢
    have HX := hid hx
    have HY := hid hy
    clear hx hy he hb hb'
    go_enter Tryd.func22, Tryd.ntmps22
    go_wp2
    go_loopg [5] (n + 1) (fun kq v5 wr => ∃ i : Nat, i ≤ n ∧ v5 = .int .i64 i ∧ Hd (kq + i = n + 1) ∧ Hd (∀ j, j < i → rd xs j = rd ys j) ∧ Hd (∃ q, wr = w.drewN q))
    case atStart => exact ⟨0, by omega, rfl, hid (by omega), hid (by intro j hj; omega), hid ⟨0, rfl⟩⟩
    case round =>
      obtain ⟨i, hi, rfl, hq, hs, hw⟩ := hrel
      obtain ⟨q, rfl⟩ := hw.out
      by_cases hlt : i < n
      · obtain ⟨g, o, rfl⟩ := HX.out.at (by rw [← hnx.out]; omega)
        obtain ⟨g', o', rfl⟩ := HY.out.at (by rw [← HE.out, ← hnx.out]; omega)
        have cx := HX.out.cellAt i (by rw [← hnx.out]; omega)
        have cy := HY.out.cellAt i (by rw [← HE.out, ← hnx.out]; omega)
        have a1 : (i : Int) < n := by omega
        obtain ⟨x, hx⟩ : ∃ x, Hd (x = rd xs i) := ⟨_, hid rfl⟩
        obtain ⟨y, hy⟩ : ∃ y, Hd (y = rd ys i) := ⟨_, hid rfl⟩
        rw [← hx.out] at cx
        rw [← hy.out] at cy
        by_cases hxy : x = y
        · have hb : (x == y) = true := by rw [beq_iff_eq]; exact hxy
          have HXY := hid hxy
          clear hxy
          go_wp2
          go_quiet (fail)
          go_wp2
          go_roundg (gk - 1)
          case measure => have := hq.out; omega
          case rel =>
            refine ⟨i + 1, by omega, by go_num, hid (by have := hq.out; omega), hid ?_, hid ⟨_, rfl⟩⟩
            intro j hj
            by_cases hji : j = i
            · subst hji; rw [← hx.out, ← hy.out]; exact HXY.out
            · exact hs.out j (by omega)
        · have hb : (x == y) = false := by rw [beq_eq_false_iff_ne]; exact hxy
          have HXY := hid hxy
          clear hxy
          go_wp2
          go_quiet (fail)
          go_wp2
          go_ret
          have hd : decide (xs = ys) = false := decide_eq_false (fun h => HXY.out (by rw [hx.out, hy.out, h]))
          rw [hd]
          exact ⟨rfl, _, rfl⟩
      · obtain rfl : i = n := by omega
        go_wp2
        go_ret
        have hd : decide (xs = ys) = true := decide_eq_true (ext_rd HE.out (fun j hj => hs.out j (by rw [hnx.out]; exact hj)))
        rw [hd]
        exact ⟨rfl, _, rfl⟩
  · have hb : ((xs.length : Int) == (ys.length : Int)) = false := by rw [beq_eq_false_iff_ne]; omega
    have hb' : (xs.length == ys.length) = false := by rw [beq_eq_false_iff_ne]; omega
    have HE := hid he
    clear he
    go_enter Tryd.func22, Tryd.ntmps22
    go_wp2
    go_ret
    have hd : decide (xs = ys) = false := decide_eq_false (fun h => HE.out (by rw [h]))
    rw [hd]
    exact ⟨rfl, 0, rfl⟩
end Go.Proofs.YtinpilfnnmkpoaaDoor
/- The law BlobOwn. -/
namespace Go.Proofs.YtinpilfnnmkpoaaDoor
open Go.RowKit Go.Cour
/-- A blob of so many bytes, with these. -/
def itm (id : List Int) (n : Int) (b : List Int) (d : Bool) : Item := ⟨id, n, b, d, 0⟩
section
variable {id b bs : List Int} {n off : Int} {d : Bool}
theorem posI : posOf id [itm id n b d] = 0 := by simp [posOf, itm, isId, List.findIdx_cons]
theorem getI : [itm id n b d][posOf id [itm id n b d]]? = some (itm id n b d) := by rw [posI]; rfl
theorem touchI : touch id [itm id n b d] = [itm id n b d] := by unfold touch; rw [getI]; rw [posI]; rfl
theorem goodI {q l : Int} (hn : 1 ≤ n ∧ n ≤ 30000) (hb : (b.length : Int) ≤ n) (hq : 0 ≤ q ∧ q < 4611686018427387904) : Good ⟨q, l, [itm id n b d]⟩ :=
  ⟨by simp, fun x hx => by simp at hx; subst hx; exact hn, fun x hx => by simp at hx; subst hx; exact hb, hq⟩
theorem openI {q l : Int} (hn : 1 ≤ n ∧ n ≤ 30000) (hq : n ≤ q) : openE ⟨q, l, []⟩ id n = none ∧ openS ⟨q, l, []⟩ id n = ⟨q, l, [itm id n [] false]⟩ := by
  unfold openE openS
  simp only [posOf, List.findIdx_nil, List.length_nil, used, List.map_nil, List.sum_nil]
  rw [if_neg (by omega), if_neg (by omega), if_neg (by omega), if_neg (by omega), if_neg (by omega), if_neg (by omega), if_neg (by omega), if_neg (by omega)]
  exact ⟨rfl, rfl⟩
theorem putI (hoff : 0 ≤ off ∧ off ≤ b.length) (hl : (bs.length : Int) ≤ n - off) : putOf id off bs [itm id n b false] = (((putB b off.toNat bs).length : Int), none) ∧ putL id off bs [itm id n b false] = [itm id n (putB b off.toNat bs) false] := by
  refine ⟨putOf_ok getI (by simp [itm]) (by simp [itm]; omega), ?_⟩
  rw [putL_ok getI (by simp [itm]) (by simp [itm]; omega), posI]; rfl
theorem commitI (h : shaOf b = id) (hl : n ≤ b.length) : commitOf id [itm id n b false] = none ∧ commitL id [itm id n b false] = [itm id n b true] := by
  have h1 : commitOf id [itm id n b false] = none := by
    unfold commitOf; rw [getI]
    show (if (itm id n b false).done = true then none else if ((itm id n b false).b.length : Int) < (itm id n b false).n then some 16 else if shaOf (itm id n b false).b = id then none else some 15) = none
    rw [if_neg (by simp [itm]), if_neg (by simp [itm]; omega), if_pos (show shaOf (itm id n b false).b = id from h)]
  exact ⟨h1, by rw [commitL_ok getI h1, posI]; rfl⟩
theorem gotI (hr : 0 ≤ n ∧ n ≤ 200 ∧ 0 ≤ off ∧ off + n ≤ b.length) {m : Int} : getOf id off n [itm id m b true] = ((b.drop off.toNat).take n.toNat, none) := by
  unfold getOf; rw [getI]
  show (if (itm id m b true).done = false then ([], some 16) else if n < 0 ∨ 200 < n ∨ off < 0 ∨ ((itm id m b true).b.length : Int) < off ∨ ((itm id m b true).b.length : Int) - off < n then ([], some 1) else (((itm id m b true).b.drop off.toNat).take n.toNat, none)) = _
  rw [if_neg (by simp [itm]), if_neg (by simp [itm]; omega)]
  rfl
end
theorem zeroHashT : Tryd.prog.built 30 [] = some (ints .u8 (List.replicate 32 0)).toArray := by kernel_rfl
theorem putB_nil (xs : List Int) : putB [] 0 xs = xs := by simp [putB]
set_option maxHeartbeats 4000000 in
set_option maxRecDepth 100000 in
theorem blobOwn_calls (a at_ : Int) {w : World} {P : Nat → Addr} (hE : Errs w P) :
    Calls Tryd.prog 6 #[.int .i64 a, .int .i64 at_] w fun e w' => e = .returned (.bool true) ∧ Below w.heap.size w w' := by
  have hS := HS.start NoF w
  have hneq := nil_neqK
  have heql := nil_eqlK
  obtain ⟨a0, ha0, ha6⟩ : ∃ a0 : Nat, Hd (a % 6 = (a0 : Int)) ∧ a0 < 6 := ⟨(a % 6).toNat, hid (by omega), by omega⟩
  have HL := hid (contOf_length a0)
  have H8 := hid (contOf_B8 a0)
  obtain ⟨xs, hxs⟩ : ∃ xs, Hd (contOf a0 = xs) := ⟨_, hid rfl⟩
  obtain ⟨D, hD⟩ : ∃ D, Hd (shaOf xs = D) := ⟨_, hid rfl⟩
  obtain ⟨s, hs⟩ : ∃ s : Nat, Hd (20 + 40 * a0 = s) := ⟨_, hid rfl⟩
  have hsb : 20 ≤ s ∧ s ≤ 220 := by have := hs.out; omega
  rw [hxs.out, hs.out] at HL
  rw [hxs.out] at H8
  have HDL : Hd (D.length = 32) := hid (hD.out ▸ shaOf_length xs)
  have hm3 : max (3 : Int) 1 = 3 := by omega
  have hop := openI (id := D) (n := (s : Int)) (q := 1000) (l := 3) (by omega) (by omega)
  have hg0 := Good.nil 1000 3 (by omega)
  have hg1 : Good ⟨1000, 3, [itm D s [] false]⟩ := goodI (by omega) (by simp) (by omega)
  have hpu := putI (id := D) (n := (s : Int)) (off := 0) (b := []) (bs := xs) (by simp) (by have := HL.out; omega)
  rw [show (0 : Int).toNat = 0 from rfl, putB_nil, HL.out] at hpu
  have hg2 : Good ⟨1000, 3, [itm D s xs false]⟩ := goodI (by omega) (by have := HL.out; omega) (by omega)
  have hco := commitI (id := D) (n := (s : Int)) (b := xs) hD.out (by have := HL.out; omega)
  have hg3 : Good ⟨1000, 3, [itm D s xs true]⟩ := goodI (by omega) (by have := HL.out; omega) (by omega)
  obtain ⟨q, hq⟩ : ∃ q : Nat, min s 200 = q := ⟨_, rfl⟩
  have hq1 : q ≤ s := by omega
  have hq2 : q ≤ 200 := by omega
  have hq20 : 20 ≤ q := by omega
  have hqm : (if (200 : Int) < (s : Int) then (200 : Int) else (s : Int)) = (q : Int) := by split <;> omega
  have hge := gotI (id := D) (m := (s : Int)) (off := 0) (n := (q : Int)) (b := xs) (by have := HL.out; omega)
  rw [show (0 : Int).toNat = 0 from rfl, List.drop_zero, Int.toNat_natCast] at hge
  obtain ⟨ys, hys⟩ : ∃ ys, Hd (xs.take q = ys) := ⟨_, hid rfl⟩
  rw [hys.out] at hge
  have HYL : Hd (ys.length = q) := hid (by rw [← hys.out, List.length_take, HL.out]; omega)
  obtain ⟨k0, hk0, hk0s⟩ : ∃ k0 : Nat, Hd (at_ % (s : Int) = (k0 : Int)) ∧ k0 < s := ⟨(at_ % (s : Int)).toNat, hid (by have := Int.emod_nonneg at_ (show (s : Int) ≠ 0 by omega); omega), by have := Int.emod_lt_of_pos at_ (show (0 : Int) < s by omega); have := Int.emod_nonneg at_ (show (s : Int) ≠ 0 by omega); omega⟩
  obtain ⟨x0, hx0⟩ : ∃ x, Hd (rd xs k0 = x) := ⟨_, hid rfl⟩
  obtain ⟨y0, hy0⟩ : ∃ x, Hd (rd ys 0 = x) := ⟨_, hid rfl⟩
  have hx0b : 0 ≤ x0 ∧ x0 < 256 := hx0.out ▸ rd_all (P := B8) H8.out zero_B8 k0
  have hy0b : 0 ≤ y0 ∧ y0 < 256 := hy0.out ▸ rd_all (P := B8) (hys.out ▸ fun x hx => H8.out x (List.mem_of_mem_take hx)) zero_B8 0
  have HEQD := hid fun w => run_equalIn_ints (P := Tryd.prog) w 9998 30 5 32 .u8 arrHash undU8B sizeU8B D D HDL.out HDL.out
  have hpos : Hd (posOf D [itm D s xs false] < [itm D s xs false].length) := hid (by rw [posI]; simp)
  have hB8 : Hd (∀ x ∈ [itm D s xs false], ∀ b ∈ x.b, B8 b) := hid (fun x hx => by simp at hx; subst hx; exact H8.out)
  have HOP := hid hop
  have HPU := hid hpu
  have HCO := hid hco
  have HGE := hid hge
  clear hop hpu hco hge hq
  go_enter Tryd.func6, Tryd.ntmps6
  go_wp2_with (first
    | (go_at_call 8; refine (first20_calls hE).mono ?_; rintro e w1 ⟨rfl, hB⟩; replace hS := hS.below hB; clear hB)
    | (go_at_call 9; refine (number_calls _ _ _ (by omega) (by omega)).mono ?_; rintro e wz ⟨rfl, rfl⟩; rw [ha0.out])
    | (go_at_call 18; refine (content_calls a0 (by omega) _).mono ?_; rintro e w2 ⟨A, m, c, rfl, hm, hc, hA, hn⟩
       obtain rfl : m = s := by rw [← hm, hxs.out, HL.out]
       rw [hxs.out] at hn ⊢
       rw [hD.out]
       replace hS : HS NoF w w2 [.os 5 (.slice A m c) (ints .u8 xs)] := HS.call (A := []) hS hn (fun k hk => hk.elim)
       clear hn hm)
    | (refine alloc_blk rfl 30 rfl _ rfl (ints .u8 (List.replicate 32 0)) zeroHashS ?_; intro g7 w3 hga hba hBa hsa; replace hS := hS.pushBlk hBa hba hga; clear hga hba hBa hsa)
    | (refine hs_storeW hS 0 rfl rfl 30 _ _ rfl rfl (ints .u8 D) rfl (ints_one' _ _) _ infoHashS (by simp [HDL.out]) (by simp) _ rfl ?_; clear hS; intro w4 hS)
    | fail)
  refine (newH 1000 3 hS).mono ?_
  rintro e w5 ⟨gs, F5, rfl, hS5⟩
  rw [hm3] at hS5
  clear hS
  have hS : HS NoF w w5 [entSto F5 gs ⟨1000, 3, []⟩, .blk g7 30 (ints .u8 D), .os 5 (.slice A m c) (ints .u8 xs)] := hS5
  clear hS5
  go_wp2_with (first
    | (refine hs_loadW hS 1 rfl rfl 30 _ rfl rfl 32 infoHashS (by simp [HDL.out]) _ arrHashS rfl _ rfl ?_)
    | fail)
  refine (openH D (m : Int) none _ hE hS hg0 HDL.out HOP.out.1 HOP.out.2).mono ?_
  rintro e w6 ⟨rfl, F6, hS6⟩
  replace hS := hS6
  clear hS6
  simp only [erV]
  go_wp2_with (first
    | (refine hs_loadW hS 1 rfl rfl 30 _ rfl rfl 32 infoHashS (by simp [HDL.out]) _ arrHashS rfl _ rfl ?_)
    | (go_at_call 23; refine (bytes_calls xs A c m _ HL.out.symm ((hS.os 2 rfl).rd rfl) (by omega)).mono ?_; rintro e w7 ⟨v7, rfl, ho, hB⟩
       obtain ⟨Ab, cb, rfl, hcb, hAb⟩ := ho.partsL HL.out
       replace hS := hS.pushOwn hB ho
       obtain ⟨gb, ob, rfl⟩ := ((hS.os 0 rfl).rd rfl).at (by rw [HL.out]; omega)
       replace hS : HS NoF w w7 [entSto F6 gs ⟨1000, 3, [itm D (m : Int) [] false]⟩, .blk g7 30 (ints .u8 D), .os 5 (.slice A m c) (ints .u8 xs), .os 5 (.slice (some ⟨gb, ob, none⟩) m cb) (ints .u8 xs)] := hS.perm (List.perm_append_comm (l₁ := [Ent.os 5 (.slice (some ⟨gb, ob, none⟩) m cb) (ints .u8 xs)]) (l₂ := [entSto F6 gs ⟨1000, 3, [itm D (m : Int) [] false]⟩, Ent.blk g7 30 (ints .u8 D), Ent.os 5 (.slice A m c) (ints .u8 xs)]))
       clear ho hB)
    | fail)
  refine (putH D 0 xs (some ⟨gb, ob, none⟩) m cb ((m : Int), none) _ hE hS hg1 HDL.out (by omega) HL.out (by omega) hcb hAb ((hS.os 3 rfl).rd rfl) (fun a ha hne hF => hS.mem.apart (i := 0) (j := 3) rfl rfl (by decide) a.block hF (by injection ha with ha; subst ha; rfl)) HPU.out.1 HPU.out.2).mono ?_
  rintro e w8 ⟨rfl, F8, hS8⟩
  replace hS : HS NoF w w8 [entSto F8 gs ⟨1000, 3, [itm D (m : Int) xs false]⟩, .blk g7 30 (ints .u8 D), .os 5 (.slice A m c) (ints .u8 xs), .os 5 (.slice (some ⟨gb, ob, none⟩) m cb) (ints .u8 xs)] := hS8
  clear hS8
  simp only [erV]
  have cbk : w8.cell? ⟨gb, ob + k0, none⟩ = some (.int .u8 x0) := by rw [← hx0.out]; exact ((hS.os 3 rfl).rd rfl).cellAt k0 (by rw [HL.out]; exact hk0s)
  obtain ⟨zs, hzs⟩ : ∃ zs, Hd (xs.set k0 ((x0 + 1) % 256) = zs) := ⟨_, hid rfl⟩
  go_wp2_with (first
    | (refine hs_loadW hS 1 rfl rfl 30 _ rfl rfl 32 infoHashS (by simp [HDL.out]) _ arrHashS rfl _ rfl ?_)
    | (go_at_call 9; refine (number_calls _ _ _ (by omega) (by omega)).mono ?_; rintro e wz ⟨rfl, rfl⟩; rw [hk0.out])
    | (refine hs_storeS hS 3 rfl rfl 5 _ _ rfl k0 rfl (.int .u8 ((x0 + 1) % 256)) rfl rfl sizeU8S (by simp [HL.out]; omega) _ rfl ?_
       clear hS cbk; intro w9 hS; rw [ints_set, hzs.out] at hS)
    | fail)
  replace hS : HS NoF w w9 [entSto F8 gs ⟨1000, 3, [itm D (m : Int) xs false]⟩, .blk g7 30 (ints .u8 D), .os 5 (.slice A m c) (ints .u8 xs), .os 5 (.slice (some ⟨gb, ob, none⟩) m cb) (ints .u8 zs)] := hS
  refine (commitH D none _ hE hS hg2 HDL.out hpos.out hB8.out HCO.out.1 HCO.out.2).mono ?_
  rintro e w10 ⟨rfl, F10, hS10⟩
  replace hS : HS NoF w w10 [entSto F10 gs ⟨1000, 3, [itm D (m : Int) xs true]⟩, .blk g7 30 (ints .u8 D), .os 5 (.slice A m c) (ints .u8 xs), .os 5 (.slice (some ⟨gb, ob, none⟩) m cb) (ints .u8 zs)] := hS10
  clear hS10
  simp only [erV]
  go_wp2_with (first
    | (refine hs_loadW hS 1 rfl rfl 30 _ rfl rfl 32 infoHashS (by simp [HDL.out]) _ arrHashS rfl _ rfl ?_)
    | fail)
  have hqc : q ≤ c := by omega
  have hqcn : (q : Int) ≤ c := by omega
  refine (getH D 0 (q : Int) (ys, none) _ hE hS hg3 HDL.out (by omega) (by omega) HGE.out touchI).mono ?_
  rintro e w11 ⟨Ac, mc, cc, rfl, hmc, hmcc, hAc, F11, hS11⟩
  have hmc' : ys.length = mc := hmc
  rw [HYL.out] at hmc'
  subst hmc'
  obtain ⟨gc, oc, rfl⟩ := ((hS11.os 1 rfl).rd rfl).at (by rw [HYL.out]; omega)
  clear hS hmc
  have hS : HS NoF w w11 [entSto F11 gs ⟨1000, 3, [itm D (m : Int) xs true]⟩, .blk g7 30 (ints .u8 D), .os 5 (.slice A m c) (ints .u8 xs), .os 5 (.slice (some ⟨gb, ob, none⟩) m cb) (ints .u8 zs), .os 5 (.slice (some ⟨gc, oc, none⟩) q cc) (ints .u8 ys)] := hS11.perm (List.Perm.cons _ (List.perm_append_comm (l₁ := [Ent.os 5 (.slice (some ⟨gc, oc, none⟩) q cc) (ints .u8 ys)]) (l₂ := [Ent.blk g7 30 (ints .u8 D), Ent.os 5 (.slice A m c) (ints .u8 xs), Ent.os 5 (.slice (some ⟨gb, ob, none⟩) m cb) (ints .u8 zs)])))
  clear hS11
  simp only [erV]
  go_wp2_with (first
    | (refine hs_loadW hS 1 rfl rfl 30 _ rfl rfl 32 infoHashS (by simp [HDL.out]) _ arrHashS rfl _ rfl ?_)
    | fail)
  have hry := ((hS.os 2 rfl).rd rfl).take q
  rw [hys.out] at hry
  refine (same_calls ys ys (some ⟨gc, oc, none⟩) A cc c q q _ HYL.out.symm HYL.out.symm ((hS.os 4 rfl).rd rfl) hry (by rw [HYL.out]; omega) (by rw [HYL.out]; omega)).mono ?_
  rintro e w12 ⟨rfl, n12, hw12⟩
  replace hS := hS.drewN n12
  rw [← hw12] at hS
  clear hw12 hry
  have hdy : decide (ys = ys) = true := by simp
  rw [hdy]
  have cc0 : w12.cell? ⟨gc, oc + 0, none⟩ = some (.int .u8 y0) := by rw [← hy0.out]; exact ((hS.os 4 rfl).rd rfl).cellAt 0 (by rw [HYL.out]; omega)
  rw [Nat.add_zero] at cc0
  obtain ⟨us, hus⟩ : ∃ us, Hd (ys.set 0 ((y0 + 1) % 256) = us) := ⟨_, hid rfl⟩
  go_wp2_with (first
    | (refine hs_loadW hS 1 rfl rfl 30 _ rfl rfl 32 infoHashS (by simp [HDL.out]) _ arrHashS rfl _ rfl ?_)
    | (refine hs_storeS hS 4 rfl rfl 5 _ _ rfl 0 rfl (.int .u8 ((y0 + 1) % 256)) rfl rfl sizeU8S (by simp [HYL.out]; omega) _ rfl ?_
       clear hS cc0; intro w13 hS; rw [ints_set, hus.out] at hS)
    | fail)
  replace hS : HS NoF w w13 [entSto F11 gs ⟨1000, 3, [itm D (m : Int) xs true]⟩, .blk g7 30 (ints .u8 D), .os 5 (.slice A m c) (ints .u8 xs), .os 5 (.slice (some ⟨gb, ob, none⟩) m cb) (ints .u8 zs), .os 5 (.slice (some ⟨gc, oc, none⟩) q cc) (ints .u8 us)] := hS
  refine (getH D 0 (q : Int) (ys, none) _ hE hS hg3 HDL.out (by omega) (by omega) HGE.out touchI).mono ?_
  rintro e w14 ⟨Ad, md, cd, rfl, hmd, hmdd, hAd, F14, hS14⟩
  have hmd' : ys.length = md := hmd
  rw [HYL.out] at hmd'
  subst hmd'
  clear hS hmd
  have hS : HS NoF w w14 [entSto F14 gs ⟨1000, 3, [itm D (m : Int) xs true]⟩, .blk g7 30 (ints .u8 D), .os 5 (.slice A m c) (ints .u8 xs), .os 5 (.slice (some ⟨gb, ob, none⟩) m cb) (ints .u8 zs), .os 5 (.slice (some ⟨gc, oc, none⟩) q cc) (ints .u8 us), .os 5 (.slice Ad q cd) (ints .u8 ys)] := hS14.perm (List.Perm.cons _ (List.perm_append_comm (l₁ := [Ent.os 5 (.slice Ad q cd) (ints .u8 ys)]) (l₂ := [Ent.blk g7 30 (ints .u8 D), Ent.os 5 (.slice A m c) (ints .u8 xs), Ent.os 5 (.slice (some ⟨gb, ob, none⟩) m cb) (ints .u8 zs), Ent.os 5 (.slice (some ⟨gc, oc, none⟩) q cc) (ints .u8 us)])))
  clear hS14
  simp only [erV]
  go_wp2_with fail
  refine (allH1 D hS rfl (by simp)).mono ?_
  rintro e w15 ⟨gl, cl, cs, rfl, hcl, hcs, _, hS15⟩
  clear hS
  have hS : HS NoF w w15 [entSto F14 gs ⟨1000, 3, [itm D (m : Int) xs true]⟩, .blk g7 30 (ints .u8 D), .os 5 (.slice A m c) (ints .u8 xs), .os 5 (.slice (some ⟨gb, ob, none⟩) m cb) (ints .u8 zs), .os 5 (.slice (some ⟨gc, oc, none⟩) q cc) (ints .u8 us), .os 5 (.slice Ad q cd) (ints .u8 ys), .blk gl 30 cs] := hS15.perm (List.Perm.cons _ (List.perm_append_comm (l₁ := [Ent.blk gl 30 cs]) (l₂ := [Ent.blk g7 30 (ints .u8 D), Ent.os 5 (.slice A m c) (ints .u8 xs), Ent.os 5 (.slice (some ⟨gb, ob, none⟩) m cb) (ints .u8 zs), Ent.os 5 (.slice (some ⟨gc, oc, none⟩) q cc) (ints .u8 us), Ent.os 5 (.slice Ad q cd) (ints .u8 ys)])))
  clear hS15
  go_wp2_with (first
    | (refine build_to rfl 30 _ rfl (ints .u8 (List.replicate 32 0)).toArray (by rw [Array.toList_map]; exact zeroHashT) ?_)
    | (refine hs_storeN hS 6 rfl rfl 30 _ _ rfl 0 rfl (ints .u8 (List.replicate 32 0)) rfl (ints_one' _ _) 32 infoHashS (by simp) (by omega) _ rfl ?_; clear hS; intro w16 hS; replace hS := hS.erase 6)
    | fail)
  replace hS : HS NoF w w16 [entSto F14 gs ⟨1000, 3, [itm D (m : Int) xs true]⟩, .blk g7 30 (ints .u8 D), .os 5 (.slice A m c) (ints .u8 xs), .os 5 (.slice (some ⟨gb, ob, none⟩) m cb) (ints .u8 zs), .os 5 (.slice (some ⟨gc, oc, none⟩) q cc) (ints .u8 us), .os 5 (.slice Ad q cd) (ints .u8 ys)] := hS
  refine (allH1 D hS rfl (by simp)).mono ?_
  rintro e w17 ⟨gm, cm, cs2, rfl, hcm, hcs2, hcc2, hS17⟩
  clear hS
  have hS : HS NoF w w17 [entSto F14 gs ⟨1000, 3, [itm D (m : Int) xs true]⟩, .blk gm 30 cs2, .blk g7 30 (ints .u8 D), .os 5 (.slice A m c) (ints .u8 xs), .os 5 (.slice (some ⟨gb, ob, none⟩) m cb) (ints .u8 zs), .os 5 (.slice (some ⟨gc, oc, none⟩) q cc) (ints .u8 us), .os 5 (.slice Ad q cd) (ints .u8 ys)] := hS17
  clear hS17
  have HCC2 := hid hcc2
  have heqd := HEQD.out
  have hdd : decide (D = D) = true := by simp
  clear hcc2
  try go_wp2_with fail
  refine wp_region_S (F := NoF) (w0 := w) (L0 := [entSto F14 gs ⟨1000, 3, [itm D (m : Int) xs true]⟩, .blk gm 30 cs2, .blk g7 30 (ints .u8 D), .os 5 (.slice A m c) (ints .u8 xs), .os 5 (.slice (some ⟨gb, ob, none⟩) m cb) (ints .u8 zs), .os 5 (.slice (some ⟨gc, oc, none⟩) q cc) (ints .u8 us), .os 5 (.slice Ad q cd) (ints .u8 ys)]) [10] []
    (fun iK u E => match iK with
      | 10 => u = .bool true ∧ E = []
      | _ => False)
    ([]) (by kernel_rfl) (by kernel_rfl) hS ?_
  show wpS _ _ _ _ _ _ _ _ _ _ [0, 1, 2, 3, 4, 5, 6, 7, 8, 9, 10, 11, 12, 13, 14, 15, 16, 17, 18, 19, 20, 21, 22, 23, 24] _
  apply wpS_read (i := 0) rfl rfl ⟨_, hS⟩ rfl -- Op.move t5
  · intro w' hT'
    simp only [List.getElem_toArray, List.getElem_cons_zero, List.getElem_cons_succ]
    go_wp2_with fail
    first | exact ⟨rfl, rfl, rfl⟩ | rfl
  apply wpS_read (i := 1) rfl rfl ⟨_, hS⟩ rfl -- Op.move t110
  · intro w' hT'
    simp only [List.getElem_toArray, List.getElem_cons_zero, List.getElem_cons_succ]
    go_wp2_with fail
    first | exact ⟨rfl, rfl, rfl⟩ | rfl
  apply wpS_read (i := 2) rfl rfl ⟨_, hS⟩ rfl -- Op.move t17
  · intro w' hT'
    simp only [List.getElem_toArray, List.getElem_cons_zero, List.getElem_cons_succ]
    go_wp2_with fail
    first | exact ⟨rfl, rfl, rfl⟩ | rfl
  apply wpS_read (i := 3) rfl rfl ⟨_, hS⟩ rfl -- Op.binOp BinOp.eql 27 t112 (const Value.nilIface) 27
  · intro w' hT'
    simp only [List.getElem_toArray, List.getElem_cons_zero, List.getElem_cons_succ]
    go_wp2_with (first
      | (refine hs_loadN hT' 1 rfl rfl 30 _ rfl 0 rfl (ints .u8 D) (fun j v hv => by rw [Nat.zero_add]; exact HCC2.out j v hv) 32 infoHashS (by simp [HDL.out]) _ arrHashS rfl _ rfl ?_)
      | (refine hs_loadW hT' 2 rfl rfl 30 _ rfl rfl 32 infoHashS (by simp [HDL.out]) _ arrHashS rfl _ rfl ?_)
      | fail)
    first | exact ⟨rfl, rfl, rfl⟩ | rfl
  apply wpS_read (i := 4) rfl rfl ⟨_, hS⟩ rfl -- Op.pick t111 t113 (const (Value.bool false))
  · intro w' hT'
    simp only [List.getElem_toArray, List.getElem_cons_zero, List.getElem_cons_succ]
    go_wp2_with fail
    first | exact ⟨rfl, rfl, rfl⟩ | rfl
  apply wpS_read (i := 5) rfl rfl ⟨_, hS⟩ rfl -- Op.move t114
  · intro w' hT'
    simp only [List.getElem_toArray, List.getElem_cons_zero, List.getElem_cons_succ]
    go_wp2_with fail
    first | exact ⟨rfl, rfl, rfl⟩ | rfl
  apply wpS_read (i := 6) rfl rfl ⟨_, hS⟩ rfl -- Op.move t16
  · intro w' hT'
    simp only [List.getElem_toArray, List.getElem_cons_zero, List.getElem_cons_succ]
    go_wp2_with fail
    first | exact ⟨rfl, rfl, rfl⟩ | rfl
  apply wpS_read (i := 7) rfl rfl ⟨_, hS⟩ rfl -- Op.move t6
  · intro w' hT'
    simp only [List.getElem_toArray, List.getElem_cons_zero, List.getElem_cons_succ]
    go_wp2_with fail
    first | exact ⟨rfl, rfl, rfl⟩ | rfl
  apply wpS_read (i := 8) rfl rfl ⟨_, hS⟩ rfl -- Op.move t13
  · intro w' hT'
    simp only [List.getElem_toArray, List.getElem_cons_zero, List.getElem_cons_succ]
    go_wp2_with fail
    first | exact ⟨rfl, rfl, rfl⟩ | rfl
  apply wpS_read (i := 9) rfl rfl ⟨_, hS⟩ rfl -- Op.slice 41 t117 none (some t118) none
  · intro w' hT'
    simp only [List.getElem_toArray, List.getElem_cons_zero, List.getElem_cons_succ]
    go_wp2_with (first
      | (refine hs_loadN hT' 1 rfl rfl 30 _ rfl 0 rfl (ints .u8 D) (fun j v hv => by rw [Nat.zero_add]; exact HCC2.out j v hv) 32 infoHashS (by simp [HDL.out]) _ arrHashS rfl _ rfl ?_)
      | (refine hs_loadW hT' 2 rfl rfl 30 _ rfl rfl 32 infoHashS (by simp [HDL.out]) _ arrHashS rfl _ rfl ?_)
      | fail)
    first | exact ⟨rfl, rfl, rfl⟩ | rfl
  refine wpS_soft (i := 10) rfl rfl rfl (Nat.le_of_ble_eq_true rfl) ?_ ?_ -- Op.call { value (Operand.func 22), args := #[t116, t119], argTypes :
  · intro w' hT
    simp only [List.getElem_toArray, List.getElem_cons_zero, List.getElem_cons_succ]
    have hdy : decide (ys = ys) = true := by simp
    have hry := ((hT.os 3 rfl).rd rfl).take q
    rw [hys.out] at hry
    go_wp2_with (first
      | (go_at_call 22; refine (same_calls ys ys Ad A cd c q q _ HYL.out.symm HYL.out.symm ((hT.os 6 rfl).rd rfl) hry (by rw [HYL.out]; omega) (by rw [HYL.out]; omega)).mono ?_; rintro e wq ⟨rfl, nq, hwq⟩; rw [hdy])
      | fail)
    exact SoftP.mk' (.bool true) ([]) rfl (⟨rfl, rfl⟩) (hT.drewN nq) (below_drewN (Below.refl _ _) nq) (fun _ h => by cases h)
  intro u10 E10 hK10
  obtain ⟨rfl, rfl⟩ := hK10
  simp only [Act.put, List.setIfInBounds_toArray, List.set_cons_zero, List.set_cons_succ]
  apply wpS_read (i := 11) rfl rfl ⟨_, hS⟩ rfl -- Op.pick t115 t120 (const (Value.bool false))
  · intro w' hT'
    simp only [List.getElem_toArray, List.getElem_cons_zero, List.getElem_cons_succ]
    go_wp2_with fail
    first | exact ⟨rfl, rfl, rfl⟩ | rfl
  apply wpS_read (i := 12) rfl rfl ⟨_, hS⟩ rfl -- Op.move t121
  · intro w' hT'
    simp only [List.getElem_toArray, List.getElem_cons_zero, List.getElem_cons_succ]
    go_wp2_with fail
    first | exact ⟨rfl, rfl, rfl⟩ | rfl
  apply wpS_read (i := 13) rfl rfl ⟨_, hS⟩ rfl -- Op.move t19
  · intro w' hT'
    simp only [List.getElem_toArray, List.getElem_cons_zero, List.getElem_cons_succ]
    go_wp2_with fail
    first | exact ⟨rfl, rfl, rfl⟩ | rfl
  apply wpS_read (i := 14) rfl rfl ⟨_, hS⟩ rfl -- Op.call { builtin len, args := #[t123], argTypes := #[37] }
  · intro w' hT'
    simp only [List.getElem_toArray, List.getElem_cons_zero, List.getElem_cons_succ]
    go_wp2_with fail
    first | exact ⟨rfl, rfl, rfl⟩ | rfl
  apply wpS_read (i := 15) rfl rfl ⟨_, hS⟩ rfl -- Op.binOp BinOp.eql 3 t124 (const (1:i64)) 3
  · intro w' hT'
    simp only [List.getElem_toArray, List.getElem_cons_zero, List.getElem_cons_succ]
    go_wp2_with (first
      | (refine hs_loadN hT' 1 rfl rfl 30 _ rfl 0 rfl (ints .u8 D) (fun j v hv => by rw [Nat.zero_add]; exact HCC2.out j v hv) 32 infoHashS (by simp [HDL.out]) _ arrHashS rfl _ rfl ?_)
      | (refine hs_loadW hT' 2 rfl rfl 30 _ rfl rfl 32 infoHashS (by simp [HDL.out]) _ arrHashS rfl _ rfl ?_)
      | fail)
    first | exact ⟨rfl, rfl, rfl⟩ | rfl
  apply wpS_read (i := 16) rfl rfl ⟨_, hS⟩ rfl -- Op.pick t122 t125 (const (Value.bool false))
  · intro w' hT'
    simp only [List.getElem_toArray, List.getElem_cons_zero, List.getElem_cons_succ]
    go_wp2_with fail
    first | exact ⟨rfl, rfl, rfl⟩ | rfl
  apply wpS_read (i := 17) rfl rfl ⟨_, hS⟩ rfl -- Op.move t126
  · intro w' hT'
    simp only [List.getElem_toArray, List.getElem_cons_zero, List.getElem_cons_succ]
    go_wp2_with fail
    first | exact ⟨rfl, rfl, rfl⟩ | rfl
  apply wpS_read (i := 18) rfl rfl ⟨_, hS⟩ rfl -- Op.move t19
  · intro w' hT'
    simp only [List.getElem_toArray, List.getElem_cons_zero, List.getElem_cons_succ]
    go_wp2_with fail
    first | exact ⟨rfl, rfl, rfl⟩ | rfl
  apply wpS_read (i := 19) rfl rfl ⟨_, hS⟩ rfl -- Op.indexAddr 37 t128 (const (0:i64))
  · intro w' hT'
    simp only [List.getElem_toArray, List.getElem_cons_zero, List.getElem_cons_succ]
    go_wp2_with fail
    first | exact ⟨rfl, rfl, rfl⟩ | rfl
  apply wpS_read (i := 20) rfl rfl ⟨_, hS⟩ rfl -- Op.load 30 t129
  · intro w' hT'
    simp only [List.getElem_toArray, List.getElem_cons_zero, List.getElem_cons_succ]
    go_wp2_with (first
      | (refine hs_loadN hT' 1 rfl rfl 30 _ rfl 0 rfl (ints .u8 D) (fun j v hv => by rw [Nat.zero_add]; exact HCC2.out j v hv) 32 infoHashS (by simp [HDL.out]) _ arrHashS rfl _ rfl ?_)
      | (refine hs_loadW hT' 2 rfl rfl 30 _ rfl rfl 32 infoHashS (by simp [HDL.out]) _ arrHashS rfl _ rfl ?_)
      | fail)
    first | exact ⟨rfl, rfl, rfl⟩ | rfl
  apply wpS_read (i := 21) rfl rfl ⟨_, hS⟩ rfl -- Op.load 30 t7
  · intro w' hT'
    simp only [List.getElem_toArray, List.getElem_cons_zero, List.getElem_cons_succ]
    go_wp2_with (first
      | (refine hs_loadN hT' 1 rfl rfl 30 _ rfl 0 rfl (ints .u8 D) (fun j v hv => by rw [Nat.zero_add]; exact HCC2.out j v hv) 32 infoHashS (by simp [HDL.out]) _ arrHashS rfl _ rfl ?_)
      | (refine hs_loadW hT' 2 rfl rfl 30 _ rfl rfl 32 infoHashS (by simp [HDL.out]) _ arrHashS rfl _ rfl ?_)
      | fail)
    first | exact ⟨rfl, rfl, rfl⟩ | rfl
  apply wpS_read (i := 22) rfl rfl ⟨_, hS⟩ rfl -- Op.binOp BinOp.eql 30 t130 t131 30
  · intro w' hT'
    simp only [List.getElem_toArray, List.getElem_cons_zero, List.getElem_cons_succ]
    go_wp2_with (first
      | (refine hs_loadN hT' 1 rfl rfl 30 _ rfl 0 rfl (ints .u8 D) (fun j v hv => by rw [Nat.zero_add]; exact HCC2.out j v hv) 32 infoHashS (by simp [HDL.out]) _ arrHashS rfl _ rfl ?_)
      | (refine hs_loadW hT' 2 rfl rfl 30 _ rfl rfl 32 infoHashS (by simp [HDL.out]) _ arrHashS rfl _ rfl ?_)
      | fail)
    first | exact ⟨rfl, rfl, rfl⟩ | rfl
  apply wpS_read (i := 23) rfl rfl ⟨_, hS⟩ rfl -- Op.pick t127 t132 (const (Value.bool false))
  · intro w' hT'
    simp only [List.getElem_toArray, List.getElem_cons_zero, List.getElem_cons_succ]
    go_wp2_with fail
    first | exact ⟨rfl, rfl, rfl⟩ | rfl
  apply wpS_read (i := 24) rfl rfl ⟨_, hS⟩ rfl -- Op.assign t133
  · intro w' hT'
    simp only [List.getElem_toArray, List.getElem_cons_zero, List.getElem_cons_succ]
    go_wp2_with fail
    first | exact ⟨rfl, rfl, rfl⟩ | rfl
  refine wpS_end ?_
  intro wz hT
  try dsimp only

  go_wp2_with fail
  go_ret
  exact ⟨rfl, hT.bel⟩
end Go.Proofs.YtinpilfnnmkpoaaDoor
/- The store's Delete and Spoil. -/
namespace Go.Proofs.YtinpilfnnmkpoaaDoor
open Go.RowKit Go.Cour
/-- What a closure says of a blob, wherever the store's own row stands as it may. -/
abbrev SaysD (w : World) (gc : Nat) (v : Value) (vs : List Value) (l : List Item) (p : Item → Bool) : Prop := ∀ w2 : World, (∀ k, v.ownBlock ≠ some k → w2.heap[k]? = w.heap[k]?) → ∀ (i : Nat) (x : Item) (u : Value), l[i]? = some x → vs[i]? = some u →
  Calls Tryd.prog 37 #[u, .pointer (some ⟨gc, 0, none⟩)] w2 fun e w3 => e = .returned (.bool (p x)) ∧ ∃ q, w3 = w2.drewN q
set_option maxHeartbeats 1000000 in
set_option maxRecDepth 100000 in
theorem idxD_calls {w : World} {v : Value} {vs : List Value} {l : List Item} {gc : Nat} (p : Item → Bool) (ho : OwnV w 0 59 v vs) (hvl : vs.length = l.length) (hp : SaysD w gc v vs l p) (hlen : l.length ≤ 1000000) :
    Calls Tryd.prog 40 #[v, .func (.func 37) #[] #[.pointer (some ⟨gc, 0, none⟩)]] w fun e w' => e = .returned (.int .i64 (if l.findIdx p < l.length then (l.findIdx p : Int) else -1)) ∧ ∃ q, w' = w.drewN q := by
  obtain ⟨A, c, hv, hc, _, hcell⟩ := ho.parts
  rw [hvl] at hv hc hcell
  obtain ⟨n, hn⟩ : ∃ n, Hd (l.length = n) := ⟨_, ⟨rfl⟩⟩
  obtain ⟨K, hK⟩ : ∃ K, Hd (l.findIdx p = K) := ⟨_, ⟨rfl⟩⟩
  have hKn : K ≤ n := by rw [← hK.out, ← hn.out]; exact List.findIdx_le_length
  rw [hn.out] at hv hc hcell hlen
  rw [hn.out, hK.out]
  obtain ⟨R, hR⟩ : ∃ R, Hd ((if K < n then (K : Int) else -1) = R) := ⟨_, ⟨rfl⟩⟩
  rw [hR.out]
  subst hv
  have HC := hid hcell
  have HP := hid hp
  have HVL := hid hvl
  clear hcell hp ho hvl
  go_enter Tryd.func40, Tryd.ntmps40
  go_wp2_with fail
  go_loopg [8] (n + 1) (fun kq v8 wr => ∃ i : Nat, i ≤ K ∧ v8 = .int .i64 i ∧ Hd (kq + i = n + 1) ∧ Hd (∃ q, wr = w.drewN q))
  case atStart => exact ⟨0, by omega, rfl, hid (by omega), hid ⟨0, rfl⟩⟩
  case round =>
    obtain ⟨i, hi, rfl, hq, hw⟩ := hrel
    obtain ⟨q, rfl⟩ := hw.out
    by_cases hlt : i < n
    · obtain ⟨u, hu⟩ : ∃ u, Hd (vs[i]? = some u) := ⟨_, hid (List.getElem?_eq_getElem (by rw [HVL.out, hn.out]; exact hlt))⟩
      obtain ⟨x, hx⟩ : ∃ x, Hd (l[i]? = some x) := ⟨_, hid (List.getElem?_eq_getElem (by rw [hn.out]; exact hlt))⟩
      obtain ⟨gv, hA, hce⟩ := HC.out i hlt
      subst hA
      rw [hu.out] at hce
      have hce2 : (w.drewN q).cell? ⟨gv, i, none⟩ = some u := hce
      have hlt2 : (i : Int) < n := by omega
      clear hce
      by_cases hik : i = K
      · have he : Hd (p x = true) := hid (by
          have h1 := List.findIdx_getElem (p := p) (xs := l) (w := by rw [hK.out, hn.out, ← hik]; exact hlt)
          have h2 := hx.out
          subst hik
          have h3 : l[l.findIdx p]? = some x := by rw [hK.out]; exact h2
          rw [List.getElem?_eq_getElem (by rw [hK.out, hn.out]; exact hlt)] at h3
          injection h3 with h3
          rw [← h3]; exact h1)
        have hKn2 := hid (show K < n by omega)
        subst hik
        go_wp2_with (first
          | (go_at_call 37; refine (HP.out (w.drewN q) (fun _ _ => rfl) i x u hx.out hu.out).mono ?_; rintro e w2 ⟨he2, q2, hw2⟩; rw [he.out] at he2; subst he2)
          | fail)
        go_ret
        have hR2 := hR.out; rw [if_pos hKn2.out] at hR2; subst hR2; exact ⟨rfl, q + q2, rfl⟩
      · have he : Hd (p x = false) := hid (by
          have h1 := List.not_of_lt_findIdx (xs := l) (p := p) (i := i) (by rw [hK.out]; omega)
          have h2 := hx.out
          rw [List.getElem?_eq_getElem (by rw [hn.out]; exact hlt)] at h2
          injection h2 with h2
          rw [h2] at h1
          simpa using h1)
        have hik := hid hik
        go_wp2_with (first
          | (go_at_call 37; refine (HP.out (w.drewN q) (fun _ _ => rfl) i x u hx.out hu.out).mono ?_; rintro e w2 ⟨he2, q2, hw2⟩; rw [he.out] at he2; subst he2)
          | fail)
        go_roundg (gk - 1)
        case measure => have := hq.out; omega
        case rel => exact ⟨i + 1, by have := hik.out; omega, by go_num, hid (by have := hq.out; omega), hid ⟨q + q2, rfl⟩⟩
    · have hin : i = n := by omega
      have hKn2 := hid (show ¬ K < n by omega)
      subst hin
      go_wp2_with fail
      go_ret
      have hR2 := hR.out; rw [if_neg hKn2.out] at hR2; subst hR2; exact ⟨rfl, q, rfl⟩
set_option maxHeartbeats 1000000 in
set_option maxRecDepth 100000 in
theorem delD_calls {w : World} {v : Value} {vs : List Value} {l : List Item} {gc : Nat} (p : Item → Bool) (ho : OwnV w 0 59 v vs) (hvl : vs.length = l.length) (hp : SaysD w gc v vs l p) (hu : ∀ (i : Nat) (u : Value), vs[i]? = some u → ∃ a, u = Value.pointer a) (hlen : l.length ≤ 1000000) :
    Calls Tryd.prog 30 #[v, .func (.func 37) #[] #[.pointer (some ⟨gc, 0, none⟩)]] w fun e w' => ∃ v', e = .returned v' ∧ OwnV w' 0 59 v' (keptL p vs l) ∧ (∀ k, v'.ownBlock = some k → v.ownBlock = some k) ∧ Upd (fun k => v.ownBlock = some k) w w' := by
  have HO := hid ho
  have HP := hid hp
  have HVL := hid hvl
  have HLEN := hid hlen
  have HU := hid hu
  clear hu
  obtain ⟨A, c, hv, hc, hA, hcell⟩ := ho.parts
  rw [hvl] at hv hc hcell
  obtain ⟨n, hn⟩ : ∃ n, Hd (l.length = n) := ⟨_, ⟨rfl⟩⟩
  obtain ⟨K, hK⟩ : ∃ K, Hd (l.findIdx p = K) := ⟨_, ⟨rfl⟩⟩
  have hKn : K ≤ n := by rw [← hK.out, ← hn.out]; exact List.findIdx_le_length
  rw [hn.out] at hv hc hcell hlen
  subst hv
  clear hp ho hvl
  by_cases hk : K < n
  · obtain ⟨gv, hA2, _⟩ := hcell K hk
    subst hA2
    obtain ⟨cs0, hb0, hcl0, hcv0⟩ : ∃ cs0 : List Value, Blk w gv 59 cs0 ∧ cs0.length = c ∧ ∀ a, a < n → cs0[a]? = vs[a]? := by
      rcases HO.out.2 with ⟨hno, _⟩ | ⟨g, cap, cur, hv2, _, hh, hn2, hm2, hs2, ht2⟩
      · cases hno
      · injection hv2 with h1 h2 h3
        injection h1 with h1
        injection h1 with h1
        subst h1 h3
        refine ⟨cur.toList, by unfold Blk; simpa using hh, by simpa using hs2, fun a ha => ?_⟩
        have h4 : vs[a]? = (cur.toList.take (vs.length * 1))[a]? := by rw [ht2]
        rw [h4, List.getElem?_take, if_pos (by rw [HVL.out, hn.out]; omega)]
    have hif := hid (show (if K < n then (K : Int) else -1) = K by rw [if_pos hk])
    have hne1 : ((K : Int) == -1) = false := by rw [beq_eq_false_iff_ne]; omega
    have hK0 : Hd (keptL p (vs.take (K + 1)) (l.take (K + 1)) = vs.take K) := hid (by
      obtain ⟨u, hu⟩ : ∃ u, vs[K]? = some u := ⟨_, List.getElem?_eq_getElem (by rw [HVL.out, hn.out]; exact hk)⟩
      obtain ⟨x, hx⟩ : ∃ x, l[K]? = some x := ⟨_, List.getElem?_eq_getElem (by rw [hn.out]; exact hk)⟩
      have hpx : p x = true := by
        have h1 := List.findIdx_getElem (p := p) (xs := l) (w := by rw [hK.out, hn.out]; exact hk)
        have h3 : l[l.findIdx p]? = some x := by rw [hK.out]; exact hx
        rw [List.getElem?_eq_getElem (by rw [hK.out, hn.out]; exact hk)] at h3
        injection h3 with h3
        rw [← h3]; exact h1
      rw [kept_take_succ hu hx, hpx, kept_none HVL.out K (fun j y hj hy => by
        have h1 := List.not_of_lt_findIdx (xs := l) (p := p) (i := j) (by rw [hK.out]; exact hj)
        rw [List.getElem?_eq_getElem (by rw [hn.out]; omega)] at hy
        injection hy with hy
        rw [hy] at h1
        simpa using h1) (by rw [hn.out]; exact hKn)]
      simp)
    have HIX := hid (idxD_calls p HO.out HVL.out HP.out HLEN.out)
    clear hcell hA
    go_enter Tryd.func30, Tryd.ntmps30
    go_wp2_with (first
      | (go_at_call 40; refine HIX.out.mono ?_; rintro e w1 ⟨he, q, hw1⟩; rw [hK.out, hn.out, hif.out] at he; subst he
         have hon1 : Only gv w w1 := hw1 ▸ (Only.refl gv w).drewN q
         have hb1 : Blk w1 gv 59 cs0 := hw1 ▸ hb0
         clear hw1)
      | fail)
    have hrow0 : RowSt w w1 gv c n K (K + 1) p vs l := by
      refine ⟨hon1, ⟨cs0, hb1, hcl0, fun a ha => ?_, fun a h1 h2 => hcv0 a h2⟩, ?_⟩
      · rw [hK0.out, hcv0 a (by omega), List.getElem?_take, if_pos ha]
      · rw [hK0.out, List.length_take, HVL.out, hn.out]; omega
    clear hne1
    go_loopg [5, 6] (n + 1) (fun kq v5 v6 wr => ∃ i j : Nat, v5 = .int .i64 i ∧ v6 = .int .i64 j ∧ i < j ∧ j ≤ n ∧ Hd (kq + j = n + K + 2) ∧ Hd (RowSt w wr gv c n i j p vs l))
    case atStart => exact ⟨K, K + 1, rfl, by go_num, by omega, by omega, hid (by omega), hid hrow0⟩
    case round =>
      clear hrow0
      obtain ⟨i, j, rfl, rfl, hij, hjn, hq, hst⟩ := hrel
      obtain ⟨cs, hb, hcl, hci, hcj⟩ := hst.out.row
      by_cases hlt : j < n
      · obtain ⟨u, hu⟩ : ∃ u, Hd (vs[j]? = some u) := ⟨_, hid (List.getElem?_eq_getElem (by rw [HVL.out, hn.out]; exact hlt))⟩
        obtain ⟨x, hx⟩ : ∃ x, Hd (l[j]? = some x) := ⟨_, hid (List.getElem?_eq_getElem (by rw [hn.out]; exact hlt))⟩
        have cj : wr.cell? ⟨gv, j, none⟩ = some u := by rw [hb.cell, hcj j (Nat.le_refl _) hlt]; exact hu.out
        have hlt2 : (j : Int) < n := by omega
        have hi2 : (i : Int) < n := by omega
        have HCI := hid hci
        have HCJ := hid hcj
        have HS := hid (HP.out wr (fun k hk => hst.out.only.block k (fun he => hk (by rw [he]; rfl))) j x u hx.out hu.out)
        clear hci hcj
        by_cases hpx : p x = true
        · have HPX := hid hpx
          clear hpx
          go_wp2_with (first
            | (go_at_call 37; refine HS.out.mono ?_; rintro e w2 ⟨he2, q2, hw2⟩; rw [HPX.out] at he2; subst he2)
            | fail)
          go_roundg (gk - 1)
          case measure => have := hq.out; omega
          case rel =>
            refine ⟨i, j + 1, rfl, by go_num, by omega, by omega, hid (by have := hq.out; omega), hid ⟨?_, ⟨cs, ?_, hcl, fun a ha => ?_, fun a h1 h2 => HCJ.out a (by omega) h2⟩, ?_⟩⟩
            · exact hst.out.only.drewN q2
            · exact hb
            · rw [kept_take_succ hu.out hx.out, HPX.out]; simpa using HCI.out a ha
            · rw [kept_take_succ hu.out hx.out, HPX.out]; simpa using hst.out.len
        · have HPX := hid (by simpa using hpx : p x = false)
          clear hpx
          obtain ⟨o1, ho1⟩ : ∃ o1, Hd (cs[i]? = some o1) := ⟨_, hid (List.getElem?_eq_getElem (by omega))⟩
          obtain ⟨gu, hgu⟩ : ∃ gu, u = .pointer gu := HU.out j u hu.out
          subst hgu
          go_wp2_with (first
            | (go_at_call 37; refine HS.out.mono ?_; rintro e w2 ⟨he2, q2, hw2⟩; rw [HPX.out] at he2; subst he2
               have ci2 : w2.cell? ⟨gv, i, none⟩ = some o1 := by (rw [hw2]; exact (hb.cell i).trans ho1.out)
               have fi2 : w2.frozen? ⟨gv, i, none⟩ = false := by (rw [hw2]; exact hb.frozen i)
               have hb2 : Blk w2 gv 59 cs := hw2 ▸ hb
               have hon2 : Only gv w w2 := hw2 ▸ hst.out.only.drewN q2
               clear hw2)
            | fail)
          go_roundg (gk - 1)
          case measure => have := hq.out; omega
          case rel =>
            refine ⟨i + 1, j + 1, by go_num, by go_num, by omega, by omega, hid (by have := hq.out; omega), hid ⟨?_, ⟨cs.set i (.pointer gu), ?_, by rw [List.length_set]; exact hcl, fun a ha => ?_, fun a h1 h2 => ?_⟩, ?_⟩⟩
            · exact hon2.setCell i _
            · exact hb2.set i _
            · rw [kept_take_succ hu.out hx.out, HPX.out, List.getElem?_append, hst.out.len]
              by_cases hai : a < i
              · rw [if_pos hai, List.getElem?_set_ne (by omega)]; exact HCI.out a hai
              · have : a = i := by omega
                subst this
                rw [if_neg (by omega), List.getElem?_set_self (by omega)]; simp
            · rw [List.getElem?_set_ne (by omega)]; exact HCJ.out a (by omega) h2
            · rw [kept_take_succ hu.out hx.out, HPX.out]; simp [hst.out.len]
      · have hjn2 : j = n := by omega
        subst hjn2
        have hlt2 : ¬ (j : Int) < j := by omega
        have hi2 : (i : Int) ≤ j := by omega
        have hci2 : ¬ c = i := by omega
        have hcn : Hd (∀ a, a < i → cs[a]? = (keptL p vs l)[a]?) := hid (fun a ha => by
          have := hci a ha
          rw [← hn.out, List.take_length] at this
          rw [← HVL.out, List.take_length] at this
          exact this)
        have hkl : Hd ((keptL p vs l).length = i) := hid (by
          have := hst.out.len
          rw [← hn.out, List.take_length] at this
          rw [← HVL.out, List.take_length] at this
          exact this)
        go_wp2_with (first
          | (refine clear_step rfl (.tmp 38) 56 59 rfl undFn (.pointer none) zeroPI rfl rfl gv i (j - i) (c - i) rfl (by omega) 59 cs hb (by omega) ?_; intro w3 cs3 hb3 hl3 hs3 hon3)
          | fail)
        go_ret
        refine ⟨_, rfl, ⟨by simp, .inr ⟨gv, c, cs3.toArray, by rw [hkl.out]; rfl, Nat.zero_le _, hb3, by rw [hkl.out]; omega, ?_, by simp; omega, ?_⟩⟩, fun k hk => hk, ?_⟩
        · rcases HO.out.2 with ⟨hno, _⟩ | ⟨g, cap, cur, hv2, _, hh, hn2, hm2, hs2, ht2⟩
          · cases hno
          · injection hv2 with h1 h2 h3
            omega
        · apply List.ext_getElem?
          intro a
          rw [hkl.out, Nat.mul_one, List.getElem?_take]
          by_cases ha : a < i
          · rw [if_pos ha, ← hcn.out a ha, ← hs3 a ha]
          · rw [if_neg ha, List.getElem?_eq_none (by rw [hkl.out]; omega)]
        · have hon := hst.out.only.trans hon3
          exact ⟨hon.os, hon.tape, hon.output, by rw [hon.size]; exact Nat.le_refl _, fun k _ hk => hon.block k (fun he => hk (by rw [he]; rfl))⟩
  · have hif := hid (show (if K < n then (K : Int) else -1) = -1 by rw [if_neg hk])
    have hall : Hd (keptL p vs l = vs) := hid (kept_all HVL.out (by rw [hK.out, hn.out]; exact hk))
    rw [hall.out]
    have HIX := hid (idxD_calls p HO.out HVL.out HP.out HLEN.out)
    clear hcell hA
    go_enter Tryd.func30, Tryd.ntmps30
    go_wp2_with (first
      | (go_at_call 40; refine HIX.out.mono ?_; rintro e w1 ⟨he, q, hw1⟩; rw [hK.out, hn.out, hif.out] at he; subst he
         have ho1 : OwnV w1 0 59 (.slice A n c) vs := hw1 ▸ HO.out
         have hu1 : Upd (fun k => (Value.slice A n c).ownBlock = some k) w w1 := hw1 ▸ (Upd.refl _ w).drewN q
         clear hw1)
      | fail)
    go_ret
    exact ⟨_, rfl, ho1, fun k hk => hk, hu1⟩

theorem star_inj {w : World} : ∀ {F : Nat → Prop} {vs : List Value} {l : List Item}, Star itemH w F vs l → ∀ (i j : Nat) (u : Value), vs[i]? = some u → vs[j]? = some u → i = j
  | _, [], [], _, i, _, _, hi, _ => by simp at hi
  | _, v :: vs, x :: l, ⟨F1, F2, ⟨g, vb, hat⟩, h2, hd, _⟩, i, j, u, hi, hj => by
    have key : ∀ k : Nat, vs[k]? = some v → False := fun k hk => by
      obtain ⟨v', x', G1, G2, hv, _, ⟨g', vb', hat'⟩, _, hF2, _⟩ := h2.focus k (by rw [← h2.length]; exact (List.getElem?_eq_some_iff.1 hk).1)
      rw [hk] at hv
      injection hv with hv
      have h3 : (Value.pointer (some ⟨g, 0, none⟩)) = .pointer (some ⟨g', 0, none⟩) := hat.hv.symm.trans (hv.trans hat'.hv)
      injection h3 with h3; injection h3 with h3; injection h3 with h3
      exact hd g ((hat.foot g).2 (.inl rfl)) ((hF2 g).2 (.inl ((hat'.foot g).2 (.inl h3))))
    match i, j with
    | 0, 0 => rfl
    | 0, j + 1 => simp at hi hj; subst hi; exact (key j hj).elim
    | i + 1, 0 => simp at hi hj; subst hj; exact (key i hi).elim
    | i + 1, j + 1 => simp at hi hj; rw [star_inj h2 i j u hi hj]
  | _, [], _ :: _, h, _, _, _, _, _ => h.elim
  | _, _ :: _, [], h, _, _, _, _, _ => h.elim
theorem star_at {w : World} {F : Nat → Prop} {vs : List Value} {l : List Item} (h : Star itemH w F vs l) (i : Nat) (u : Value) (hu : vs[i]? = some u) : ∃ g cs, u = .pointer (some ⟨g, 0, none⟩) ∧ Blk w g 62 cs := by
  obtain ⟨v, x, F1, F2, hv, _, ⟨g, vb, hat⟩, _⟩ := h.focus i (by rw [← h.length]; exact (List.getElem?_eq_some_iff.1 hu).1)
  rw [hu] at hv
  injection hv with hv
  exact ⟨g, _, hv.trans hat.hv, hat.blk⟩
theorem undPItem : Tryd.prog.underlying 59 = some (.pointer 62) := Tryd.underlying59
theorem infoItemJ : ∃ j, Tryd.prog.info? 62 = some j ∧ j.size ≠ 0 := by
  have h : (Tryd.prog.info? 62).map (·.size) = some 36 := by kernel_rfl
  cases hi : Tryd.prog.info? 62 with
  | none => rw [hi] at h; cases h
  | some j => rw [hi] at h; exact ⟨j, rfl, by simp at h; omega⟩
set_option maxRecDepth 100000 in
theorem delete1_calls {w : World} {gj g gc : Nat} {c1 c2 : List Value} (hj : Blk w gj 62 c1) (hg : Blk w g 62 c2) (hc : w.cell? ⟨gc, 0, none⟩ = some (.pointer (some ⟨g, 0, none⟩))) :
    Calls Tryd.prog 37 #[.pointer (some ⟨gj, 0, none⟩), .pointer (some ⟨gc, 0, none⟩)] w fun e w' => e = .returned (.bool (decide (gj = g))) ∧ ∃ q, w' = w.drewN q := by
  obtain ⟨ij, hij, hsz⟩ := infoItemJ
  by_cases h : gj = g
  · subst h
    rw [decide_eq_true rfl]
    have heq := run_eql_ptr_same w ⟨gj, 0, none⟩ undPItem hij
    have heq' := run_eql_ptr_same w.drew ⟨gj, 0, none⟩ undPItem hij
    go_enter Tryd.func37, Tryd.ntmps37
    go_wp2_with fail
    go_ret
    exact ⟨by simp, 0, rfl⟩
  · rw [decide_eq_false h]
    have heq := run_eql_ptr_other w undPItem hij hsz (a := ⟨gj, 0, none⟩) (b := ⟨g, 0, none⟩) (fun he => h (by injection he)) hj hg
    go_enter Tryd.func37, Tryd.ntmps37
    go_wp2_with fail
    go_ret
    exact ⟨by simp [h], 0, rfl⟩
def delE (id : List Int) (l : List Item) : Option Nat := if posOf id l < l.length then none else some 13
def delL (id : List Int) (l : List Item) : List Item := l.filter fun x => !isId id x
theorem delL_none {id : List Int} {l : List Item} (h : ¬ posOf id l < l.length) : delL id l = l := by
  refine List.filter_eq_self.2 fun x hx => ?_
  obtain ⟨i, hi⟩ := List.getElem?_of_mem hx
  have := posOf_ne (id := id) (l := l) (by have := (List.getElem?_eq_some_iff.1 hi).1; omega) hi
  simp [isId, this]
theorem zeroPItemC : ((Tryd.prog.info? 59).bind (·.zero)).map (·.cells) = some [Value.pointer none].toArray := by kernel_rfl
set_option maxHeartbeats 1000000 in
set_option maxRecDepth 100000 in
theorem bdelete_calls {w : World} {P : Nat → Addr} {B : Nat} {F F2 : Nat → Prop} {gs : Nat} {st : StoreD} {v : Value} {vs : List Value} (id : List Int) (hE : ErrsAt w P B) (hBw : B ≤ w.heap.size) (hF : ∀ k, F k → B ≤ k) (h : StoreAt w F gs st v vs F2) (hid' : id.length = 32) (hlen : st.l.length ≤ 1000000) (hnd : (st.l.map (·.id)).Nodup) :
    Calls Tryd.prog 26 #[.pointer (some ⟨gs, 0, none⟩), .agg (ints .u8 id).toArray] w fun e w' => e = .returned (erV P (delE id st.l)) ∧ Becomes w F gs w' { st with l := delL id st.l } := by
  have HI := hid hid'
  have H := hid h
  have HLEN := hid hlen
  have HND := hid hnd
  have hS := HS.start NoF w
  obtain ⟨A, c, hv, hc, hA, hcell⟩ := h.own.parts
  have hsl := h.star.length
  rw [hsl] at hv
  obtain ⟨n, hn⟩ : ∃ n, Hd (st.l.length = n) := ⟨_, ⟨rfl⟩⟩
  rw [hn.out] at hv
  subst hv
  have c2 : w.cell? ⟨gs, 2, none⟩ = some (.slice A n c) := by rw [h.blk.cell]; rfl
  have hgs := h.blk.lt
  have HSL := hid hsl
  clear hid' hlen hnd hcell hA hc hsl
  by_cases hk : posOf id st.l < st.l.length
  · obtain ⟨x, g, vb, hx, hu, hxl, hb, ho, hFg, hFb, hgs2, hvg, hvb, hback⟩ := h.focus _ hk
    have hr : vs.getD (posOf id st.l) (.pointer none) = .pointer (some ⟨g, 0, none⟩) := by rw [List.getD_eq_getElem?_getD, hu]; rfl
    have hr := hid hr
    have hde : Hd (delE id st.l = none) := hid (if_pos hk)
    rw [hde.out]
    have HU := hid hu
    have HX := hid hx
    clear hback ho hgs2 hvg hvb hu hx hb hFb h hFg hk
    have C2 := hid c2
    clear c2
    go_enter Tryd.func26, Tryd.ntmps26
    go_wp2_with (first
      | (refine box_blk rfl 30 _ rfl _ rfl (ints .u8 id) rfl ?_; intro gb w1 hgb hbb hB1 hs1; replace hS := hS.pushBlk hB1 hbb hgb; clear hgb hs1 hbb hB1)
      | (refine hs_loadW hS 0 rfl rfl 30 _ rfl rfl 32 infoHashS (by simp [HI.out]) _ arrHashS rfl _ rfl ?_)
      | (go_at_call 35; refine (at_calls id (H.out.below hS.bel) HI.out HLEN.out).mono ?_
         rintro e w2 ⟨he, hB2⟩
         rw [hr.out] at he
         subst he
         replace hS := hS.below hB2
         clear hB2)
      | (refine alloc_blk rfl 59 rfl _ rfl [.pointer none] zeroPItemC ?_; intro gc w3 hgc hbc hB3 hs3; replace hS := hS.pushBlk hB3 hbc hgc; clear hgc hs3 hbc hB3)
      | (refine hs_store1 hS 0 rfl rfl 59 _ _ rfl 0 rfl (.pointer (some ⟨g, 0, none⟩)) rfl rfl sizePItem (by simp) _ rfl ?_; clear hS; intro w4 hS; have c2 := hS.oldCell C2.out (fun h => h); have cc := hS.cell 0 rfl 0)
      | fail)
    replace hS : HS NoF w w4 [Ent.blk gc 59 [.pointer (some ⟨g, 0, none⟩)], Ent.blk gb 30 (ints .u8 id)] := hS
    have hst := H.out.below hS.bel
    have hsays : SaysD w4 gc (.slice A n c) vs st.l (isId id) := fun w2 hk j y u hy hu => by
      obtain ⟨gj, cj, rfl, hbj⟩ := star_at hst.star j u hu
      obtain ⟨_, cg, heg, hbg⟩ := star_at hst.star _ _ HU.out
      injection heg with heg; injection heg with heg; injection heg with heg
      subst heg
      have hw2 : ∀ {k cs}, Blk w4 k 62 cs → Blk w2 k 62 cs := fun hb => (hk _ (fun he => hst.own.ne_blk hb (by decide) he.symm)).trans hb
      have hb1 : Blk w2 gc 59 [.pointer (some ⟨g, 0, none⟩)] := (hk gc (fun he => by have h1 := H.out.own.lt_size gc he; rcases hS.own _ (List.mem_cons_self ..) gc rfl with h2 | h2; exact h2.elim; omega)).trans (hS.blk 0 rfl)
      have hyg : isId id y = decide (gj = g) := by
        by_cases h1 : gj = g
        · subst h1
          have h2 := star_inj hst.star j _ _ hu HU.out
          rw [h2, HX.out] at hy
          injection hy with hy
          subst hy
          rw [decide_eq_true rfl]
          have := posOf_eq HX.out
          simp [isId, this]
        · rw [decide_eq_false h1]
          have h3 : j ≠ posOf id st.l := fun he => by
            rw [he, HU.out] at hu
            injection hu with hu; injection hu with hu; injection hu with hu; injection hu with hu
            exact h1 hu.symm
          have h4 : y.id ≠ id := fun he => h3 (by
            have h5 : (st.l.map (·.id))[j]? = some id := by rw [List.getElem?_map, hy]; simp [he]
            have h6 : (st.l.map (·.id))[posOf id st.l]? = some id := by rw [List.getElem?_map, HX.out]; simp [posOf_eq HX.out]
            exact (List.getElem?_inj (by have := (List.getElem?_eq_some_iff.1 h5).1; exact this) HND.out).1 (h5.trans h6.symm))
          simp [isId, h4]
      rw [hyg]
      exact delete1_calls (hw2 hbj) (hw2 hbg) (by rw [hb1.cell]; rfl)
    refine (delD_calls (isId id) hst.own HSL.out hsays (fun j u hu => star_ptr hst.star j u hu) HLEN.out).mono ?_
    rintro e w5 ⟨v', rfl, hov, hvb, hu2⟩
    have hvb := hid hvb
    have hu2 := hid hu2
    have hngs := hst.own.ne_blk hst.blk tStore_ne
    have hs2 := hst.blk.upd hu2.out (fun he => hngs he.symm)
    have f22 := hs2.frozen 2
    have c22 : w5.cell? ⟨gs, 2, none⟩ = some (.slice A n c) := by rw [hs2.cell]; rfl
    obtain ⟨A', c', hv', _, _, _⟩ := hov.parts
    obtain ⟨m', hm'⟩ : ∃ m', Hd ((keptL (isId id) vs st.l).length = m') := ⟨_, ⟨rfl⟩⟩
    rw [hm'.out] at hv'
    subst hv'
    clear hsays c2 cc
    go_wp2_with fail
    go_ret
    have hu3 : Upd F w w5 := (Upd.of_below hS.bel F).trans hu2.out (fun j _ hj => (H.out.foot j).2 (.inr (.inl hj)))
    have hbs3 := hs2.set 2 (.slice A' m' c')
    obtain ⟨F', vs', F2', hst4, hsub4⟩ := hst.drop (w' := w5.setCell ⟨gs, 2, none⟩ (.slice A' m' c')) (v' := .slice A' m' c') (isId id) (hov.kept' fun j hj => Below.heap_setCell _ _ _ _ (fun he => hov.ne_blk hs2 tStore_ne (by rw [hj, he]))) hvb.out (by have := hbs3; exact this) (fun k hk => by
        have hkg : k ≠ gs := fun he => hst.apart.1 (he ▸ hk)
        exact (Below.heap_setCell _ _ _ _ hkg).trans (hu2.out.block k (hst.star.lt k hk) (fun he => hst.apart.2 k he hk)))
    exact ⟨rfl, F', _, vs', F2', hst4, fun k hk => .inl (hsub4 k hk), hu3.trans (Upd.setCell _ _ _) (fun j _ he => (H.out.foot j).2 (.inl he))⟩
  · have hr : vs.getD (posOf id st.l) (.pointer none) = .pointer none := by rw [List.getD_eq_getElem?_getD, List.getElem?_eq_none (by have := HSL.out; omega)]; rfl
    have hr := hid hr
    have hde : Hd (delE id st.l = some 13) := hid (if_neg hk)
    rw [hde.out, delL_none hk]
    clear c2 h hk
    go_enter Tryd.func26, Tryd.ntmps26
    go_wp2_with (first
      | (refine box_blk rfl 30 _ rfl _ rfl (ints .u8 id) rfl ?_; intro gb w1 hgb hbb hB1 hs1; replace hS := hS.pushBlk hB1 hbb hgb; clear hgb hs1 hbb hB1)
      | (refine hs_loadW hS 0 rfl rfl 30 _ rfl rfl 32 infoHashS (by simp [HI.out]) _ arrHashS rfl _ rfl ?_)
      | (go_at_call 35; refine (at_calls id (H.out.below hS.bel) HI.out HLEN.out).mono ?_
         rintro e w2 ⟨he, hB2⟩
         rw [hr.out] at he
         subst he
         replace hS := hS.below hB2
         clear hB2)
      | (refine alloc_blk rfl 59 rfl _ rfl [.pointer none] zeroPItemC ?_; intro gc w3 hgc hbc hB3 hs3; replace hS := hS.pushBlk hB3 hbc hgc; clear hgc hs3 hbc hB3)
      | (refine hs_store1 hS 0 rfl rfl 59 _ _ rfl 0 rfl (.pointer none) rfl rfl sizePItem (by simp) _ rfl ?_; clear hS; intro w4 hS; have cc := hS.cell 0 rfl 0
         have e13 := (hE.below (hS.upd.below hBw (fun _ hk => hk.elim))).errs.cell 13 (by omega)
         simp only [globs, List.getD_cons_zero, List.getD_cons_succ] at e13)
      | fail)
    go_ret
    exact ⟨rfl, Becomes.same H.out hS.bel⟩
theorem Own.at0 {w : World} {B : Nat} {e : TypeId} {k : IntKind} {A : Option Addr} {n c : Nat} {xs : List Int} (h : Own w B e k (.slice A n c) xs) (hn : 0 < xs.length) : ∃ g, A = some ⟨g, 0, none⟩ := by
  obtain ⟨h1, ⟨hv, h2⟩ | ⟨g, cap, cur, hv, r⟩⟩ := h
  · omega
  · injection hv with h3; exact ⟨g, h3⟩
theorem own_setI {w : World} {B : Nat} {e : TypeId} {k : IntKind} {g n c : Nat} {xs : List Int} (h : Own w B e k (.slice (some ⟨g, 0, none⟩) n c) xs) (j : Nat) (y : Int) : Own (w.setCell ⟨g, j, none⟩ (.int k y)) B e k (.slice (some ⟨g, 0, none⟩) n c) (xs.set j y) := by
  obtain ⟨h1, ⟨hv, h2⟩ | ⟨g', cap, cur, hv, hb, hh, hn, hm, hs, ht⟩⟩ := h
  · cases hv
  · injection hv with h3 h4 h5
    injection h3 with h3; injection h3 with h3
    subst h3 h5
    rw [Nat.mul_one] at ht
    refine ⟨by simp, .inr ⟨g, c, cur.setIfInBounds j (.int k y), by rw [h4, List.length_set], hb, heap_setCell_same w g j cur e _ hh, by simpa using hn, hm, by simpa using hs, ?_⟩⟩
    rw [Array.toList_setIfInBounds, Nat.mul_one, List.length_set, List.take_set, ht, ints_set]
def spK (at_ : Int) (n : Nat) : Nat := (at_ % (n : Int)).toNat
def spB (b : List Int) (at_ : Int) : List Int := b.set (spK at_ b.length) (bits .xor .u8 (rd b (spK at_ b.length)) 1)
def spoilE (id : List Int) (l : List Item) : Bool := match l[posOf id l]? with
  | some x => decide (0 < x.b.length)
  | none => false
def spoilL (id : List Int) (at_ : Int) (l : List Item) : List Item := match l[posOf id l]? with
  | some x => if 0 < x.b.length then l.set (posOf id l) { x with b := spB x.b at_ } else l
  | none => l
theorem spFin {w w' : World} {F F2 : Nat → Prop} {gs g gv n cb k : Nat} {at_ x0 : Int} {st : StoreD} {v : Value} {vs : List Value} {x : Item} {i : Nat} (hT : Below w.heap.size w w') (H : StoreAt w F gs st v vs F2) (HB : Blk w g 62 (itemC x (.slice (some ⟨gv, 0, none⟩) n cb))) (HO : Own w 0 5 .u8 (.slice (some ⟨gv, 0, none⟩) n cb) x.b)
    (hback : ∀ w' x' vb', Blk w' g 62 (itemC x' vb') → x'.id.length = 32 → Own w' 0 5 .u8 vb' x'.b → (∀ k, vb'.ownBlock = some k → (Value.slice (some ⟨gv, 0, none⟩) n cb).ownBlock = some k ∨ w.heap.size ≤ k) → (∀ k, F k → k ≠ g → (Value.slice (some ⟨gv, 0, none⟩) n cb).ownBlock ≠ some k → w'.heap[k]? = w.heap[k]?) →
        ∃ F' F2', StoreAt w' F' gs { st with l := st.l.set i x' } v vs F2' ∧ Sub F' F w) (hxl : x.id.length = 32) (hFb : ∀ k, (Value.slice (some ⟨gv, 0, none⟩) n cb).ownBlock = some k → F k) (hFg : F g) (hk : spK at_ x.b.length = k) (hx0 : rd x.b k = x0) :
    Becomes w F gs (w'.setCell ⟨gv, k, none⟩ (.int .u8 (bits .xor .u8 x0 1))) { st with l := st.l.set i { x with b := spB x.b at_ } } := by
  have hne := HO.ne_blk HB tItem_ne
  obtain ⟨F', F2', h1, h2⟩ := hback (w'.setCell ⟨gv, k, none⟩ (.int .u8 (bits .xor .u8 x0 1))) { x with b := spB x.b at_ } (.slice (some ⟨gv, 0, none⟩) n cb)
    ((HB.belowAll hT).setOther (fun he => hne (by simp [Value.ownBlock]; exact he.symm ▸ rfl)) _) hxl
    (by have h3 := own_setI (HO.below hT) k (bits .xor .u8 x0 1); unfold spB; rw [hk, hx0]; exact h3) (fun k hk => .inl hk)
    (fun j hj hjg hjb => by
      have hjv : j ≠ gv := fun he => hjb (by rw [he]; rfl)
      exact (Below.heap_setCell _ _ _ _ hjv).trans (hT.block j (H.lt j hj)))
  exact ⟨F', v, vs, F2', h1, h2, (Upd.of_below hT F).trans (Upd.setCell _ _ _) (fun j _ he => by subst he; exact hFb _ rfl)⟩
set_option maxHeartbeats 1000000 in
set_option maxRecDepth 100000 in
theorem bspoil_calls {w : World} {F F2 : Nat → Prop} {gs : Nat} {st : StoreD} {v : Value} {vs : List Value} (id : List Int) (at_ : Int) (h : StoreAt w F gs st v vs F2) (hid' : id.length = 32) (hlen : st.l.length ≤ 1000000) (hb1 : ∀ x ∈ st.l, x.b.length ≤ 1000000) :
    Calls Tryd.prog 24 #[.pointer (some ⟨gs, 0, none⟩), .agg (ints .u8 id).toArray, .int .i64 at_] w fun e w' => e = .returned (.bool (spoilE id st.l)) ∧ Becomes w F gs w' { st with l := spoilL id at_ st.l } := by
  have HI := hid hid'
  have H := hid h
  have HLEN := hid hlen
  have HB1 := hid hb1
  have hS := HS.start NoF w
  have hsl := h.star.length
  clear hid' hlen hb1
  by_cases hk : posOf id st.l < st.l.length
  · obtain ⟨x, g, vb, hx, hu, hxl, hb, ho, hFg, hFb, hgs2, hvg, hvb, hback⟩ := h.focus _ hk
    have hr : vs.getD (posOf id st.l) (.pointer none) = .pointer (some ⟨g, 0, none⟩) := by rw [List.getD_eq_getElem?_getD, hu]; rfl
    have hr := hid hr
    have hxn := HB1.out x (List.mem_of_getElem? hx)
    obtain ⟨Ab, cb, hvb2, hcb, hAb, hcell⟩ := ho.parts
    obtain ⟨n, hn⟩ : ∃ n, Hd (x.b.length = n) := ⟨_, ⟨rfl⟩⟩
    rw [hn.out] at hvb2 hcb hxn
    subst hvb2
    have C33 : Hd (w.cell? ⟨g, 33, none⟩ = some (.slice Ab n cb)) := hid (by rw [hb.cell]; exact itemC_at x _ hxl 1)
    have HB := hid hb
    have HO := hid ho
    have HBK := hid hback
    have HCL := hid hcell
    have HX := hid hx
    have HFB := hid hFb
    clear hback ho hgs2 hvg hvb hu hb hcell h hk hx hFb
    by_cases hn0 : 0 < n
    · have hse : Hd (spoilE id st.l = true) := hid (by unfold spoilE; rw [HX.out]; simp [hn.out]; omega)
      have hsL : Hd (spoilL id at_ st.l = st.l.set (posOf id st.l) { x with b := spB x.b at_ }) := hid (by unfold spoilL; rw [HX.out]; simp only [hn.out, if_pos hn0])
      rw [hse.out, hsL.out]
      obtain ⟨k, hkq⟩ : ∃ k, Hd (spK at_ n = k) := ⟨_, ⟨rfl⟩⟩
      have hkm : Hd (at_ % (n : Int) = k) := hid (by rw [← hkq.out]; unfold spK; have := Int.emod_nonneg at_ (show (n : Int) ≠ 0 by omega); omega)
      have hkn : k < n := by have h1 := hkm.out; have := Int.emod_lt_of_pos at_ (show 0 < (n : Int) by omega); omega
      obtain ⟨gv, rfl⟩ := Own.at0 HO.out (by rw [hn.out]; exact hn0)
      obtain ⟨x0, hx0⟩ : ∃ x0, Hd (rd x.b k = x0) := ⟨_, ⟨rfl⟩⟩
      obtain ⟨y0, hy0⟩ : ∃ y0, Hd (bits .xor .u8 x0 1 = y0) := ⟨_, ⟨rfl⟩⟩
      have CX : Hd (w.cell? ⟨gv, k, none⟩ = some (.int .u8 x0)) := hid (by rw [← hx0.out]; have h1 := (HO.out.os.rd rfl).cellAt k (by rw [hn.out]; exact hkn); rw [Nat.zero_add] at h1; exact h1)
      obtain ⟨q, hq⟩ : ∃ q, Hd (at_.tmod (n : Int) = q) := ⟨_, ⟨rfl⟩⟩
      have hqb : -(n : Int) < q ∧ q < n := by rw [← hq.out]; exact tmod_low at_ n (by omega)
      have hqk : (q + (n : Int)).tmod (n : Int) = (k : Int) := by
        have h1 := emod_of_tmod (q + n) n (by omega)
        have h2 := Int.tmod_nonneg (a := q + n) (n : Int) (by omega)
        rw [if_neg (by omega)] at h1
        rw [← h1, ← hkm.out, Int.add_emod_right, ← hq.out]
        have h3 := Int.mul_tdiv_add_tmod at_ (n : Int)
        conv => rhs; rw [← h3]
        rw [Int.add_comm, Int.add_mul_emod_self_left]
      have hqo := hq.out
      have hqr := hqb.1
      have hqr2 := hqb.2
      have hnz : ((n : Int) == 0) = false := by rw [beq_eq_false_iff_ne]; omega
      clear hqb
      go_enter Tryd.func24, Tryd.ntmps24
      go_wp2_with (first
        | (refine box_blk rfl 30 _ rfl _ rfl (ints .u8 id) rfl ?_; intro gb w1 hgb hbb hB1 hs1; replace hS := hS.pushBlk hB1 hbb hgb; clear hgb hs1 hbb hB1)
        | (refine hs_loadW hS 0 rfl rfl 30 _ rfl rfl 32 infoHashS (by simp [HI.out]) _ arrHashS rfl _ rfl ?_)
        | (go_at_call 35; refine (at_calls id (H.out.below hS.bel) HI.out HLEN.out).mono ?_
           rintro e w2 ⟨he, hB2⟩
           rw [hr.out] at he
           subst he
           replace hS := hS.below hB2
           have c33 := hS.oldCell C33.out (fun h => h)
           clear hB2)
        | fail)
      try go_wp2_with fail
      refine wp_region_L (T := fun w' => Below w.heap.size w w') (by kernel_rfl) (by kernel_rfl) hS.bel.drew ?_
      intro wa hT
      show wpT _ _ _ _ [0, 1, 2, 3, 4, 5, 6, 7, 8, 9, 10, 11, 12, 13, 14, 15] _ _
      apply wpT_read (i := 0) rfl hT rfl -- Op.move t7
      · intro w' hT'
        simp only [List.getElem_toArray, List.getElem_cons_zero, List.getElem_cons_succ]
        go_wp2_with fail
        first | exact ⟨rfl, rfl, rfl⟩ | rfl
      apply wpT_read (i := 1) rfl hT rfl -- Op.nilCheck t27
      · intro w' hT'
        simp only [List.getElem_toArray, List.getElem_cons_zero, List.getElem_cons_succ]
        go_wp2_with fail
        first | exact ⟨rfl, rfl, rfl⟩ | rfl
      apply wpT_read (i := 2) rfl hT rfl -- Op.fieldAddr 62 t28 2
      · intro w' hT'
        simp only [List.getElem_toArray, List.getElem_cons_zero, List.getElem_cons_succ]
        go_wp2_with fail
        first | exact ⟨rfl, rfl, rfl⟩ | rfl
      apply wpT_read (i := 3) rfl hT rfl -- Op.load 41 t29
      · intro w' hT'
        simp only [List.getElem_toArray, List.getElem_cons_zero, List.getElem_cons_succ]
        have c33' := (hT'.cell (lt_of_cell C33.out)).trans C33.out
        have cx' := (hT'.cell (lt_of_cell CX.out)).trans CX.out
        go_wp2_with fail
        first | exact ⟨rfl, rfl, rfl⟩ | rfl
      apply wpT_read (i := 4) rfl hT rfl -- Op.move t2
      · intro w' hT'
        simp only [List.getElem_toArray, List.getElem_cons_zero, List.getElem_cons_succ]
        go_wp2_with fail
        first | exact ⟨rfl, rfl, rfl⟩ | rfl
      apply wpT_read (i := 5) rfl hT rfl -- Op.move t8
      · intro w' hT'
        simp only [List.getElem_toArray, List.getElem_cons_zero, List.getElem_cons_succ]
        go_wp2_with fail
        first | exact ⟨rfl, rfl, rfl⟩ | rfl
      apply wpT_read (i := 6) rfl hT rfl -- Op.binOp BinOp.rem 3 t31 t32 3
      · intro w' hT'
        simp only [List.getElem_toArray, List.getElem_cons_zero, List.getElem_cons_succ]
        go_wp2_with fail
        first | exact ⟨rfl, rfl, rfl⟩ | rfl
      apply wpT_read (i := 7) rfl hT rfl -- Op.move t8
      · intro w' hT'
        simp only [List.getElem_toArray, List.getElem_cons_zero, List.getElem_cons_succ]
        go_wp2_with fail
        first | exact ⟨rfl, rfl, rfl⟩ | rfl
      apply wpT_read (i := 8) rfl hT rfl -- Op.binOp BinOp.add 3 t33 t34 3
      · intro w' hT'
        simp only [List.getElem_toArray, List.getElem_cons_zero, List.getElem_cons_succ]
        go_wp2_with fail
        first | exact ⟨rfl, rfl, rfl⟩ | rfl
      apply wpT_read (i := 9) rfl hT rfl -- Op.move t8
      · intro w' hT'
        simp only [List.getElem_toArray, List.getElem_cons_zero, List.getElem_cons_succ]
        go_wp2_with fail
        first | exact ⟨rfl, rfl, rfl⟩ | rfl
      apply wpT_read (i := 10) rfl hT rfl -- Op.binOp BinOp.rem 3 t35 t36 3
      · intro w' hT'
        simp only [List.getElem_toArray, List.getElem_cons_zero, List.getElem_cons_succ]
        go_wp2_with fail
        first | exact ⟨rfl, rfl, rfl⟩ | rfl
      apply wpT_read (i := 11) rfl hT rfl -- Op.indexAddr 41 t30 t37
      · intro w' hT'
        simp only [List.getElem_toArray, List.getElem_cons_zero, List.getElem_cons_succ]
        go_wp2_with fail
        first | exact ⟨rfl, rfl, rfl⟩ | rfl
      apply wpT_read (i := 12) rfl hT rfl -- Op.load 5 t38
      · intro w' hT'
        simp only [List.getElem_toArray, List.getElem_cons_zero, List.getElem_cons_succ]
        have c33' := (hT'.cell (lt_of_cell C33.out)).trans C33.out
        have cx' := (hT'.cell (lt_of_cell CX.out)).trans CX.out
        go_wp2_with fail
        first | exact ⟨rfl, rfl, rfl⟩ | rfl
      apply wpT_read (i := 13) rfl hT rfl -- Op.binOp BinOp.xor 5 t39 (const (1:u8)) 5
      · intro w' hT'
        simp only [List.getElem_toArray, List.getElem_cons_zero, List.getElem_cons_succ]
        go_wp2_with fail
        first | exact ⟨rfl, rfl, rfl⟩ | rfl
      apply wpT_read (i := 14) rfl hT rfl -- Op.indexAddr 41 t30 t37
      · intro w' hT'
        simp only [List.getElem_toArray, List.getElem_cons_zero, List.getElem_cons_succ]
        go_wp2_with fail
        first | exact ⟨rfl, rfl, rfl⟩ | rfl
      refine wpT_totL (i := 15) rfl rfl (by kernel_rfl) ?_ -- Op.store 5 t41 t40
      simp only [List.getElem_toArray, List.getElem_cons_zero, List.getElem_cons_succ]
      have cx' := (hT.cell (lt_of_cell CX.out)).trans CX.out
      have fx' := (HO.out.below hT).os.frozen rfl k
      have hT0 := hT
      go_wp2_with fail
      refine OnX.mk (fun w' => Becomes w F gs w' { st with l := st.l.set (posOf id st.l) { x with b := spB x.b at_ } }) rfl ?_ ?_
      · exact spFin hT0 H.out HB.out HO.out HBK.out hxl HFB.out hFg (by rw [hn.out]; exact hkq.out) hx0.out
      clear hT
      intro w5_15 hT
      refine wpT_end ?_
      try dsimp only
      go_wp2_with fail
      go_ret
      exact ⟨rfl, hT⟩
    · have hse : Hd (spoilE id st.l = false) := hid (by unfold spoilE; rw [HX.out]; simp [hn.out]; omega)
      have hsL : Hd (spoilL id at_ st.l = st.l) := hid (by unfold spoilL; rw [HX.out]; simp only [hn.out, if_neg hn0])
      rw [hse.out, hsL.out]
      have hn2 : n = 0 := by omega
      subst hn2
      go_enter Tryd.func24, Tryd.ntmps24
      go_wp2_with (first
        | (refine box_blk rfl 30 _ rfl _ rfl (ints .u8 id) rfl ?_; intro gb w1 hgb hbb hB1 hs1; replace hS := hS.pushBlk hB1 hbb hgb; clear hgb hs1 hbb hB1)
        | (refine hs_loadW hS 0 rfl rfl 30 _ rfl rfl 32 infoHashS (by simp [HI.out]) _ arrHashS rfl _ rfl ?_)
        | (go_at_call 35; refine (at_calls id (H.out.below hS.bel) HI.out HLEN.out).mono ?_
           rintro e w2 ⟨he, hB2⟩
           rw [hr.out] at he
           subst he
           replace hS := hS.below hB2
           have c33 := hS.oldCell C33.out (fun h => h)
           clear hB2)
        | fail)
      go_ret
      exact ⟨rfl, Becomes.same H.out hS.bel⟩
  · have hr : vs.getD (posOf id st.l) (.pointer none) = .pointer none := by rw [List.getD_eq_getElem?_getD, List.getElem?_eq_none (by omega)]; rfl
    have hr := hid hr
    have hse : Hd (spoilE id st.l = false) := hid (by unfold spoilE; rw [List.getElem?_eq_none (by omega)])
    have hsL : Hd (spoilL id at_ st.l = st.l) := hid (by unfold spoilL; rw [List.getElem?_eq_none (by omega)])
    rw [hse.out, hsL.out]
    clear h hk hsl
    go_enter Tryd.func24, Tryd.ntmps24
    go_wp2_with (first
      | (refine box_blk rfl 30 _ rfl _ rfl (ints .u8 id) rfl ?_; intro gb w1 hgb hbb hB1 hs1; replace hS := hS.pushBlk hB1 hbb hgb; clear hgb hs1 hbb hB1)
      | (refine hs_loadW hS 0 rfl rfl 30 _ rfl rfl 32 infoHashS (by simp [HI.out]) _ arrHashS rfl _ rfl ?_)
      | (go_at_call 35; refine (at_calls id (H.out.below hS.bel) HI.out HLEN.out).mono ?_
         rintro e w2 ⟨he, hB2⟩
         rw [hr.out] at he
         subst he
         replace hS := hS.below hB2
         clear hB2)
      | fail)
    go_ret
    exact ⟨rfl, Becomes.same H.out hS.bel⟩
theorem spoilH {w0 w : World} {F : Nat → Prop} {gs : Nat} {st : StoreD} {L : List Ent} (id : List Int) (at_ : Int) (o : Bool) (l2 : List Item) (h : HS NoF w0 w (entSto F gs st :: L)) (hG : Good st) (hl : id.length = 32) (h1 : spoilE id st.l = o) (h2 : spoilL id at_ st.l = l2) :
    Calls Tryd.prog 24 #[.pointer (some ⟨gs, 0, none⟩), .agg (ints .u8 id).toArray, .int .i64 at_] w fun e w' => e = .returned (.bool o) ∧ ∃ F', HS NoF w0 w' (entSto F' gs { st with l := l2 } :: L) := by
  subst h1 h2
  obtain ⟨v, vs, F2, hs⟩ := h.get (i := 0) rfl
  exact (bspoil_calls id at_ hs hl (by have := hG.len; omega) (fun x hx => by have h1 := hG.b x hx; have h2 := hG.n x hx; omega)).mono fun e w' ⟨he, hb⟩ => ⟨he, hb.hs h⟩
theorem deleteH {w0 w : World} {P : Nat → Addr} {F : Nat → Prop} {gs : Nat} {st : StoreD} {L : List Ent} (id : List Int) (o : Option Nat) (l2 : List Item) (hE : Errs w0 P) (h : HS NoF w0 w (entSto F gs st :: L)) (hG : Good st) (hl : id.length = 32) (hnd : (st.l.map (·.id)).Nodup) (h1 : delE id st.l = o) (h2 : delL id st.l = l2) :
    Calls Tryd.prog 26 #[.pointer (some ⟨gs, 0, none⟩), .agg (ints .u8 id).toArray] w fun e w' => e = .returned (erV P o) ∧ ∃ F', HS NoF w0 w' (entSto F' gs { st with l := l2 } :: L) := by
  subst h1 h2
  obtain ⟨v, vs, F2, hs⟩ := h.get (i := 0) rfl
  exact (bdelete_calls id (stoErrs h hE) h.size (stoF h) hs hl (by have := hG.len; omega) hnd).mono fun e w' ⟨he, hb⟩ => ⟨he, hb.hs h⟩
end Go.Proofs.YtinpilfnnmkpoaaDoor
/- The law BlobSpoils. -/
namespace Go.Proofs.YtinpilfnnmkpoaaDoor
open Go.RowKit Go.Cour
theorem bits_u8_bound (op : BinOp) (x y : Int) : B8 (bits op .u8 x y) := by
  unfold bits
  rw [IntKind.wrap_u8]
  exact ⟨Int.emod_nonneg _ (by decide), Int.emod_lt_of_pos _ (by decide)⟩
/-- Number, its answer a letter. -/
theorem numberM_calls (a b : Int) (w : World) (hb : 0 < b) (hb2 : b < 4611686018427387904) : Calls Tryd.prog 9 #[.int .i64 a, .int .i64 b] w fun e w' => ∃ k : Nat, (k : Int) < b ∧ e = .returned (.int .i64 (k : Int)) ∧ w = w' :=
  (number_calls a b w hb hb2).mono fun e w' ⟨h1, h2⟩ => ⟨(a % b).toNat, by have := Int.emod_nonneg a (show b ≠ 0 by omega); have := Int.emod_lt_of_pos a hb; omega, by rw [h1]; have := Int.emod_nonneg a (show b ≠ 0 by omega); congr 2; omega, h2.symm⟩
section
variable {id b bs : List Int} {n off m : Int} {d : Bool}
theorem spoilN {a : Int} : spoilE id [itm id n [] d] = false ∧ spoilL id a [itm id n [] d] = [itm id n [] d] := by
  unfold spoilE spoilL; rw [getI]; exact ⟨rfl, rfl⟩
theorem spK_nat {k n : Nat} (h : k < n) : spK (k : Int) n = k := by
  unfold spK; rw [Int.emod_eq_of_lt (by omega) (by omega)]; rfl
theorem spoilI {k : Nat} (h : k < b.length) : spoilE id [itm id n b d] = true ∧ spoilL id (k : Int) [itm id n b d] = [itm id n (b.set k (bits .xor .u8 (rd b k) 1)) d] := by
  unfold spoilE spoilL; rw [getI, posI]
  have hl : 0 < (itm id n b d).b.length := Nat.lt_of_le_of_lt (Nat.zero_le _) h
  refine ⟨by simp only [decide_eq_true hl], ?_⟩
  show (if 0 < (itm id n b d).b.length then _ else _) = _
  rw [if_pos hl]
  show [_] = [_]
  unfold spB
  rw [spK_nat (show k < (itm id n b d).b.length from h)]
  rfl
theorem commitB (h : shaOf b ≠ id) (hl : n ≤ b.length) : commitOf id [itm id n b false] = some 15 ∧ commitL id [itm id n b false] = [itm id n b false] := by
  have h1 : commitOf id [itm id n b false] = some 15 := by
    unfold commitOf; rw [getI]
    show (if (itm id n b false).done = true then none else if ((itm id n b false).b.length : Int) < (itm id n b false).n then some 16 else if shaOf (itm id n b false).b = id then none else some 15) = _
    rw [if_neg (by simp [itm]), if_neg (by simp [itm]; omega), if_neg (show ¬ shaOf (itm id n b false).b = id from h)]
  exact ⟨h1, by rw [commitL_err (by rw [h1]; simp), touchI]⟩
theorem delI : delE id [itm id n b d] = none ∧ delL id [itm id n b d] = [] := by
  unfold delE delL
  rw [posI]
  exact ⟨rfl, by simp [isId, itm]⟩
theorem del0 : delE id [] = some 13 ∧ delL id [] = [] := ⟨by simp [delE, posOf], rfl⟩
end
set_option maxHeartbeats 40000000 in
set_option maxRecDepth 100000 in
theorem blobSpoils_calls (a at_ : Int) (bh : Bool) {w : World} {P : Nat → Addr} (hE : Errs w P) :
    Calls Tryd.prog 7 #[.int .i64 a, .int .i64 at_, .bool bh] w fun e w' => e = .returned (.bool true) ∧ Below w.heap.size w w' := by
  have hS := HS.start NoF w
  have hneq := nil_neqK
  have heql := nil_eqlK
  obtain ⟨a0, ha0, ha6⟩ : ∃ a0 : Nat, Hd (a % 6 = (a0 : Int)) ∧ a0 < 6 := ⟨(a % 6).toNat, hid (by omega), by omega⟩
  have HL := hid (contOf_length a0)
  have H8 := hid (contOf_B8 a0)
  obtain ⟨xs, hxs⟩ : ∃ xs, Hd (contOf a0 = xs) := ⟨_, hid rfl⟩
  obtain ⟨D, hD⟩ : ∃ D, Hd (shaOf xs = D) := ⟨_, hid rfl⟩
  obtain ⟨s, hs⟩ : ∃ s : Nat, Hd (20 + 40 * a0 = s) := ⟨_, hid rfl⟩
  have hsb : 20 ≤ s ∧ s ≤ 220 := by have := hs.out; omega
  rw [hxs.out, hs.out] at HL
  rw [hxs.out] at H8
  have HDL : Hd (D.length = 32) := hid (hD.out ▸ shaOf_length xs)
  have hm3 : max (3 : Int) 1 = 3 := by omega
  have hg0 := Good.nil 1000 3 (by omega)
  have HOP := hid (openI (id := D) (n := (s : Int)) (q := 1000) (l := 3) (by omega) (by omega))
  have hgd : ∀ (b : List Int) (d : Bool), b.length ≤ s → Good ⟨1000, 3, [itm D (s : Int) b d]⟩ := fun b d hb => goodI (by omega) (by omega) (by omega)
  have HSN := hid (spoilN (id := D) (n := (s : Int)) (d := false) (a := 0))
  have HPU := hid (putI (id := D) (n := (s : Int)) (off := 0) (b := []) (bs := xs) (by simp) (by have := HL.out; omega))
  rw [show (0 : Int).toNat = 0 from rfl, putB_nil, HL.out] at HPU
  have hgx := fun d => hgd xs d (by rw [HL.out]; exact Nat.le_refl _)
  go_enter Tryd.func7, Tryd.ntmps7
  go_wp2_with (first
    | (go_at_call 8; refine (first20_calls hE).mono ?_; rintro e w1 ⟨rfl, hB⟩; replace hS := hS.below hB; clear hB)
    | (go_at_call 9; refine (number_calls _ _ _ (by omega) (by omega)).mono ?_; rintro e wz ⟨rfl, rfl⟩; rw [ha0.out])
    | (go_at_call 18; refine (content_calls a0 (by omega) _).mono ?_; rintro e w2 ⟨A, m, c, rfl, hm, hc, hA, hn⟩; (have hms : s = m := (by rw [← hm, hxs.out, HL.out])); subst hms; rw [hxs.out] at hn ⊢; rw [hD.out]; replace hS : HS NoF w w2 [.os 5 (.slice A s c) (ints .u8 xs)] := HS.call (A := []) hS hn (fun k hk => hk.elim); (obtain ⟨ga, oa, rfl⟩ := ((hS.os 0 rfl).rd rfl).at (by rw [HL.out]; omega)); clear hn hm hA)
    | (refine alloc_blk rfl 30 rfl _ rfl (ints .u8 (List.replicate 32 0)) zeroHashS ?_; intro g7 w3 hga hba hBa hsa; replace hS := hS.pushBlk hBa hba hga; clear hga hba hBa hsa)
    | (refine hs_storeW hS 0 rfl rfl 30 _ _ rfl rfl (ints .u8 D) rfl (ints_one' _ _) _ infoHashS (by simp [HDL.out]) (by simp) _ rfl ?_; clear hS; intro w4 hS)
    | fail)
  refine (newH 1000 3 hS).mono ?_
  rintro e w5 ⟨gs, F5, rfl, hS5⟩
  rw [hm3] at hS5
  clear hS
  have hS : HS NoF w w5 [entSto F5 gs ⟨1000, 3, []⟩, .blk g7 30 (ints .u8 D), .os 5 (.slice (some ⟨ga, oa, none⟩) s c) (ints .u8 xs)] := hS5
  clear hS5
  go_wp2_with (first
    | (refine hs_loadW hS 1 rfl rfl 30 _ rfl rfl 32 infoHashS (by simp [HDL.out]) _ arrHashS rfl _ rfl ?_)
    | fail)
  refine (openH D (s : Int) none _ hE hS hg0 HDL.out HOP.out.1 HOP.out.2).mono ?_
  rintro e w6 ⟨rfl, F6, hSn⟩
  clear hS
  have hS : HS NoF w w6 [entSto F6 gs ⟨1000, 3, [itm D (s : Int) [] false]⟩, .blk g7 30 (ints .u8 D), .os 5 (.slice (some ⟨ga, oa, none⟩) s c) (ints .u8 xs)] := hSn
  clear hSn
  simp only [erV]
  go_wp2_with (first
    | (refine hs_loadW hS 1 rfl rfl 30 _ rfl rfl 32 infoHashS (by simp [HDL.out]) _ arrHashS rfl _ rfl ?_)
    | fail)
  refine (spoilH D 0 false _ hS (hgd [] false (by simp)) HDL.out HSN.out.1 HSN.out.2).mono ?_
  rintro e w7 ⟨rfl, F7, hSn⟩
  clear hS
  have hS : HS NoF w w7 [entSto F7 gs ⟨1000, 3, [itm D (s : Int) [] false]⟩, .blk g7 30 (ints .u8 D), .os 5 (.slice (some ⟨ga, oa, none⟩) s c) (ints .u8 xs)] := hSn
  clear hSn
  go_wp2_with (first
    | (refine hs_loadW hS 1 rfl rfl 30 _ rfl rfl 32 infoHashS (by simp [HDL.out]) _ arrHashS rfl _ rfl ?_)
    | fail)
  refine (putH D 0 xs (some ⟨ga, oa, none⟩) s c ((s : Int), none) _ hE hS (hgd [] false (by simp)) HDL.out (by omega) HL.out (by omega) hc (fun h => by cases h) ((hS.os 2 rfl).rd rfl) (fun a ha hne hF => hS.mem.apart (i := 0) (j := 2) rfl rfl (by decide) a.block hF (by injection ha with ha; subst ha; rfl)) HPU.out.1 HPU.out.2).mono ?_
  rintro e w8 ⟨rfl, F8, hSn⟩
  clear hS
  have hS : HS NoF w w8 [entSto F8 gs ⟨1000, 3, [itm D (s : Int) xs false]⟩, .blk g7 30 (ints .u8 D), .os 5 (.slice (some ⟨ga, oa, none⟩) s c) (ints .u8 xs)] := hSn
  clear hSn
  simp only [erV]
  go_wp2_with (first
    | (refine hs_loadW hS 1 rfl rfl 30 _ rfl rfl 32 infoHashS (by simp [HDL.out]) _ arrHashS rfl _ rfl ?_)
    | go_at_call 9; (refine (numberM_calls _ (s : Int) _ (by omega) (by omega)).mono ?_); rintro e wz ⟨kk, hkk, rfl, rfl⟩
    | fail)
  try clear mk0
  have hk0s : kk < s := by omega
  obtain ⟨x0, hx0⟩ : ∃ x, Hd (rd xs kk = x) := ⟨_, hid rfl⟩
  have hx0b : 0 ≤ x0 ∧ x0 < 256 := hx0.out ▸ rd_all (P := B8) H8.out zero_B8 kk
  obtain ⟨ys, hys⟩ : ∃ ys, Hd (xs.set kk (bits .xor .u8 x0 1) = ys) := ⟨_, hid rfl⟩
  have HYL : Hd (ys.length = s) := hid (by rw [← hys.out, List.length_set, HL.out])
  have HY8 : Hd (∀ y ∈ ys, B8 y) := hid (fun y hy => by rw [← hys.out] at hy; rcases List.mem_or_eq_of_mem_set hy with h1 | h1; exact H8.out y h1; exact h1 ▸ bits_u8_bound _ _ _)
  refine (bytes_calls xs (some ⟨ga, oa, none⟩) c s _ HL.out.symm ((hS.os 2 rfl).rd rfl) (by omega)).mono ?_
  rintro e w9 ⟨v7, rfl, ho, hB⟩
  obtain ⟨Ab, cb, rfl, hcb, hAb⟩ := ho.partsL HL.out
  replace hS := hS.pushOwn hB ho
  obtain ⟨gb, ob, rfl⟩ := ((hS.os 0 rfl).rd rfl).at (by rw [HL.out]; omega)
  replace hS : HS NoF w w9 [entSto F8 gs ⟨1000, 3, [itm D (s : Int) xs false]⟩, .blk g7 30 (ints .u8 D), .os 5 (.slice (some ⟨ga, oa, none⟩) s c) (ints .u8 xs), .os 5 (.slice (some ⟨gb, ob, none⟩) s cb) (ints .u8 xs)] := hS.perm (List.perm_append_comm (l₁ := [Ent.os 5 (.slice (some ⟨gb, ob, none⟩) s cb) (ints .u8 xs)]) (l₂ := [entSto F8 gs ⟨1000, 3, [itm D (s : Int) xs false]⟩, Ent.blk g7 30 (ints .u8 D), Ent.os 5 (.slice (some ⟨ga, oa, none⟩) s c) (ints .u8 xs)]))
  clear ho hB
  have cbk : w9.cell? ⟨gb, ob + kk, none⟩ = some (.int .u8 x0) := by rw [← hx0.out]; exact ((hS.os 3 rfl).rd rfl).cellAt kk (by rw [HL.out]; exact hk0s)
  go_wp2_with (first
    | (refine hs_storeS hS 3 rfl rfl 5 _ _ rfl kk rfl (.int .u8 (bits .xor .u8 x0 1)) rfl rfl sizeU8S (by simp [HL.out]; omega) _ rfl ?_; clear hS cbk; intro w10 hS; rw [ints_set, hys.out] at hS)
    | fail)
  replace hS : HS NoF w w10 [entSto F8 gs ⟨1000, 3, [itm D (s : Int) xs false]⟩, .blk g7 30 (ints .u8 D), .os 5 (.slice (some ⟨ga, oa, none⟩) s c) (ints .u8 xs), .os 5 (.slice (some ⟨gb, ob, none⟩) s cb) (ints .u8 ys)] := hS
  have HEQD := hid fun w E2 (hE2 : E2.length = 32) => run_equalIn_ints (P := Tryd.prog) w 9998 30 5 32 .u8 arrHash undU8B sizeU8B E2 D hE2 HDL.out
  obtain ⟨E2, hE2⟩ : ∃ E2, Hd (shaOf ys = E2) := ⟨_, hid rfl⟩
  have HE2 : Hd (E2.length = 32) := hid (hE2.out ▸ shaOf_length ys)
  have heqd := fun w => HEQD.out w E2 HE2.out
  try go_wp2_with fail
  refine wp_region_S (F := NoF) (w0 := w) (L0 := [entSto F8 gs ⟨1000, 3, [itm D (s : Int) xs false]⟩, .blk g7 30 (ints .u8 D), .os 5 (.slice (some ⟨ga, oa, none⟩) s c) (ints .u8 xs), .os 5 (.slice (some ⟨gb, ob, none⟩) s cb) (ints .u8 ys)]) [1] []
    (fun iK u E => match iK with
      | 1 => u = .agg (ints .u8 E2).toArray ∧ E = []
      | _ => False)
    ([]) (by kernel_rfl) (by kernel_rfl) hS ?_
  show wpS _ _ _ _ _ _ _ _ _ _ [0, 1, 2, 3] _
  apply wpS_read (i := 0) rfl rfl ⟨_, hS⟩ rfl -- Op.move t14
  · intro w' hT'
    simp only [List.getElem_toArray, List.getElem_cons_zero, List.getElem_cons_succ]
    go_wp2_with fail
    first | exact ⟨rfl, rfl, rfl⟩ | rfl
  refine wpS_soft (i := 1) rfl rfl rfl (Nat.le_of_ble_eq_true rfl) ?_ ?_ -- Op.call { value (Operand.func 25), args := #[t68], argTypes := #[41]
  · intro w' hT
    simp only [List.getElem_toArray, List.getElem_cons_zero, List.getElem_cons_succ]
    go_wp2_with (first
      | (go_at_call 25; refine (sum1_calls ys (some ⟨gb, ob, none⟩) s cb _ HYL.out ((hT.os 3 rfl).rd rfl) HY8.out (by omega)).mono ?_; rintro e wq ⟨rfl, hBq⟩; rw [hE2.out])
      | fail)
    exact SoftP.mk' (.agg (ints .u8 E2).toArray) ([]) rfl (⟨rfl, rfl⟩) (hT.below hBq) (hBq) (fun _ h => by cases h)
  intro u1 E1 hK1
  obtain ⟨rfl, rfl⟩ := hK1
  simp only [Act.put, List.setIfInBounds_toArray, List.set_cons_zero, List.set_cons_succ]
  apply wpS_read (i := 2) rfl rfl ⟨_, hS⟩ rfl -- Op.load 30 t9
  · intro w' hT'
    simp only [List.getElem_toArray, List.getElem_cons_zero, List.getElem_cons_succ]
    go_wp2_with (first
      | ((refine hs_loadW hT' 1 rfl rfl 30 _ rfl rfl 32 infoHashS (by simp [HDL.out]) _ arrHashS rfl _ rfl ?_))
      | fail)
    first | exact ⟨rfl, rfl, rfl⟩ | rfl
  apply wpS_read (i := 3) rfl rfl ⟨_, hS⟩ rfl -- Op.binOp BinOp.eql 30 t69 t70 30
  · intro w' hT'
    simp only [List.getElem_toArray, List.getElem_cons_zero, List.getElem_cons_succ]
    go_wp2_with (first
      | ((refine hs_loadW hT' 1 rfl rfl 30 _ rfl rfl 32 infoHashS (by simp [HDL.out]) _ arrHashS rfl _ rfl ?_))
      | fail)
    first | exact ⟨rfl, rfl, rfl⟩ | rfl
  refine wpS_end ?_
  intro w11 hT
  try dsimp only
  clear hS
  have hS : HS NoF w w11 [entSto F8 gs ⟨1000, 3, [itm D (s : Int) xs false]⟩, .blk g7 30 (ints .u8 D), .os 5 (.slice (some ⟨ga, oa, none⟩) s c) (ints .u8 xs), .os 5 (.slice (some ⟨gb, ob, none⟩) s cb) (ints .u8 ys)] := hT
  clear hT heqd
  by_cases heD : E2 = D
  · have hdd : decide (E2 = D) = true := by simp [heD]
    rw [hdd]
    go_wp2_with fail
    go_ret
    exact ⟨rfl, hS.bel⟩
  · have hdd : decide (E2 = D) = false := by simp [heD]
    rw [hdd]
    have HSP := hid fun d => spoilI (id := D) (n := (s : Int)) (b := xs) (d := d) (k := kk) (by rw [HL.out]; exact hk0s)
    rw [hx0.out, hys.out] at HSP
    have hgy := fun d => hgd ys d (by rw [HYL.out]; exact Nat.le_refl _)
    cases bh
    · go_wp2_with (first
        | (refine hs_loadW hS 1 rfl rfl 30 _ rfl rfl 32 infoHashS (by simp [HDL.out]) _ arrHashS rfl _ rfl ?_)
        | fail)
      refine (spoilH D (kk : Int) true _ hS (hgx false) HDL.out (HSP.out false).1 (HSP.out false).2).mono ?_
      rintro e w12 ⟨rfl, F12, hSn⟩
      clear hS
      have hS : HS NoF w w12 [entSto F12 gs ⟨1000, 3, [itm D (s : Int) ys false]⟩, .blk g7 30 (ints .u8 D), .os 5 (.slice (some ⟨ga, oa, none⟩) s c) (ints .u8 xs), .os 5 (.slice (some ⟨gb, ob, none⟩) s cb) (ints .u8 ys)] := hSn
      clear hSn
      have HCB := hid (commitB (id := D) (n := (s : Int)) (b := ys) (by rw [hE2.out]; exact heD) (by rw [HYL.out]; exact Int.le_refl _))
      have HDI := hid (delI (id := D) (n := (s : Int)) (b := ys) (d := false))
      have HD0 := hid (del0 (id := D))
      have HCI := hid (commitI (id := D) (n := (s : Int)) hD.out (by rw [HL.out]; exact Int.le_refl _))
      go_wp2_with (first
        | (refine hs_loadW hS 1 rfl rfl 30 _ rfl rfl 32 infoHashS (by simp [HDL.out]) _ arrHashS rfl _ rfl ?_)
        | fail)
      refine (commitH D (some 15) _ hE hS (hgy false) HDL.out (by rw [posI]; simp) (fun x hx b hb => by rw [List.mem_singleton.mp hx] at hb; exact HY8.out b hb) HCB.out.1 HCB.out.2).mono ?_
      rintro e w13 ⟨rfl, F13, hSn⟩
      clear hS
      have hS : HS NoF w w13 [entSto F13 gs ⟨1000, 3, [itm D (s : Int) ys false]⟩, .blk g7 30 (ints .u8 D), .os 5 (.slice (some ⟨ga, oa, none⟩) s c) (ints .u8 xs), .os 5 (.slice (some ⟨gb, ob, none⟩) s cb) (ints .u8 ys)] := hSn
      clear hSn
      simp only [erV]
      go_wp2_with (first
        | (refine hs_loadW hS 1 rfl rfl 30 _ rfl rfl 32 infoHashS (by simp [HDL.out]) _ arrHashS rfl _ rfl ?_)
        | fail)
      refine (is_erV_calls 116 (stoErrs hS hE) (some 15) (fun k hk => by injection hk with hk; omega)).mono ?_
      rintro e w14 ⟨rfl, hB⟩
      replace hS := hS.below hB
      clear hB
      go_wp2_with (first
        | (refine hs_loadW hS 1 rfl rfl 30 _ rfl rfl 32 infoHashS (by simp [HDL.out]) _ arrHashS rfl _ rfl ?_)
        | fail)
      refine (deleteH D none _ hE hS (hgy false) HDL.out (by simp) HDI.out.1 HDI.out.2).mono ?_
      rintro e w15 ⟨rfl, F15, hSn⟩
      clear hS
      have hS : HS NoF w w15 [entSto F15 gs ⟨1000, 3, []⟩, .blk g7 30 (ints .u8 D), .os 5 (.slice (some ⟨ga, oa, none⟩) s c) (ints .u8 xs), .os 5 (.slice (some ⟨gb, ob, none⟩) s cb) (ints .u8 ys)] := hSn
      clear hSn
      simp only [erV]
      go_wp2_with (first
        | (refine hs_loadW hS 1 rfl rfl 30 _ rfl rfl 32 infoHashS (by simp [HDL.out]) _ arrHashS rfl _ rfl ?_)
        | fail)
      refine (deleteH D (some 13) _ hE hS hg0 HDL.out (by simp) HD0.out.1 HD0.out.2).mono ?_
      rintro e w16 ⟨rfl, F16, hSn⟩
      clear hS
      have hS : HS NoF w w16 [entSto F16 gs ⟨1000, 3, []⟩, .blk g7 30 (ints .u8 D), .os 5 (.slice (some ⟨ga, oa, none⟩) s c) (ints .u8 xs), .os 5 (.slice (some ⟨gb, ob, none⟩) s cb) (ints .u8 ys)] := hSn
      clear hSn
      simp only [erV]
      go_wp2_with (first
        | (refine hs_loadW hS 1 rfl rfl 30 _ rfl rfl 32 infoHashS (by simp [HDL.out]) _ arrHashS rfl _ rfl ?_)
        | fail)
      refine (is_erV_calls 114 (stoErrs hS hE) (some 13) (fun k hk => by injection hk with hk; omega)).mono ?_
      rintro e w17 ⟨rfl, hB⟩
      replace hS := hS.below hB
      clear hB
      go_wp2_with (first
        | (refine hs_loadW hS 1 rfl rfl 30 _ rfl rfl 32 infoHashS (by simp [HDL.out]) _ arrHashS rfl _ rfl ?_)
        | fail)
      refine (openH D (s : Int) none _ hE hS hg0 HDL.out HOP.out.1 HOP.out.2).mono ?_
      rintro e w18 ⟨rfl, F18, hSn⟩
      clear hS
      have hS : HS NoF w w18 [entSto F18 gs ⟨1000, 3, [itm D (s : Int) [] false]⟩, .blk g7 30 (ints .u8 D), .os 5 (.slice (some ⟨ga, oa, none⟩) s c) (ints .u8 xs), .os 5 (.slice (some ⟨gb, ob, none⟩) s cb) (ints .u8 ys)] := hSn
      clear hSn
      simp only [erV]
      go_wp2_with (first
        | (refine hs_loadW hS 1 rfl rfl 30 _ rfl rfl 32 infoHashS (by simp [HDL.out]) _ arrHashS rfl _ rfl ?_)
        | fail)
      refine (putH D 0 xs (some ⟨ga, oa, none⟩) s c ((s : Int), none) _ hE hS (hgd [] false (by simp)) HDL.out (by omega) HL.out (by omega) hc (fun h => by cases h) ((hS.os 2 rfl).rd rfl) (fun a ha hne hF => hS.mem.apart (i := 0) (j := 2) rfl rfl (by decide) a.block hF (by injection ha with ha; subst ha; rfl)) HPU.out.1 HPU.out.2).mono ?_
      rintro e w19 ⟨rfl, F19, hSn⟩
      clear hS
      have hS : HS NoF w w19 [entSto F19 gs ⟨1000, 3, [itm D (s : Int) xs false]⟩, .blk g7 30 (ints .u8 D), .os 5 (.slice (some ⟨ga, oa, none⟩) s c) (ints .u8 xs), .os 5 (.slice (some ⟨gb, ob, none⟩) s cb) (ints .u8 ys)] := hSn
      clear hSn
      simp only [erV]
      go_wp2_with (first
        | (refine hs_loadW hS 1 rfl rfl 30 _ rfl rfl 32 infoHashS (by simp [HDL.out]) _ arrHashS rfl _ rfl ?_)
        | fail)
      refine (commitH D none _ hE hS (hgx false) HDL.out (by rw [posI]; simp) (fun x hx b hb => by rw [List.mem_singleton.mp hx] at hb; exact H8.out b hb) HCI.out.1 HCI.out.2).mono ?_
      rintro e w20 ⟨rfl, F20, hSn⟩
      clear hS
      have hS : HS NoF w w20 [entSto F20 gs ⟨1000, 3, [itm D (s : Int) xs true]⟩, .blk g7 30 (ints .u8 D), .os 5 (.slice (some ⟨ga, oa, none⟩) s c) (ints .u8 xs), .os 5 (.slice (some ⟨gb, ob, none⟩) s cb) (ints .u8 ys)] := hSn
      clear hSn
      simp only [erV]
      go_wp2_with (first
        | (refine hs_loadW hS 1 rfl rfl 30 _ rfl rfl 32 infoHashS (by simp [HDL.out]) _ arrHashS rfl _ rfl ?_)
        | fail)
      go_ret
      exact ⟨rfl, hS.bel⟩
    · have HCI := hid (commitI (id := D) (n := (s : Int)) hD.out (by rw [HL.out]; exact Int.le_refl _))
      go_wp2_with (first
        | (refine hs_loadW hS 1 rfl rfl 30 _ rfl rfl 32 infoHashS (by simp [HDL.out]) _ arrHashS rfl _ rfl ?_)
        | fail)
      refine (commitH D none _ hE hS (hgx false) HDL.out (by rw [posI]; simp) (fun x hx b hb => by rw [List.mem_singleton.mp hx] at hb; exact H8.out b hb) HCI.out.1 HCI.out.2).mono ?_
      rintro e w12 ⟨rfl, F12, hSn⟩
      clear hS
      have hS : HS NoF w w12 [entSto F12 gs ⟨1000, 3, [itm D (s : Int) xs true]⟩, .blk g7 30 (ints .u8 D), .os 5 (.slice (some ⟨ga, oa, none⟩) s c) (ints .u8 xs), .os 5 (.slice (some ⟨gb, ob, none⟩) s cb) (ints .u8 ys)] := hSn
      clear hSn
      simp only [erV]
      go_wp2_with (first
        | (refine hs_loadW hS 1 rfl rfl 30 _ rfl rfl 32 infoHashS (by simp [HDL.out]) _ arrHashS rfl _ rfl ?_)
        | fail)
      refine (spoilH D (kk : Int) true _ hS (hgx true) HDL.out (HSP.out true).1 (HSP.out true).2).mono ?_
      rintro e w13 ⟨rfl, F13, hSn⟩
      clear hS
      have hS : HS NoF w w13 [entSto F13 gs ⟨1000, 3, [itm D (s : Int) ys true]⟩, .blk g7 30 (ints .u8 D), .os 5 (.slice (some ⟨ga, oa, none⟩) s c) (ints .u8 xs), .os 5 (.slice (some ⟨gb, ob, none⟩) s cb) (ints .u8 ys)] := hSn
      clear hSn
      go_wp2_with (first
        | (refine hs_loadW hS 1 rfl rfl 30 _ rfl rfl 32 infoHashS (by simp [HDL.out]) _ arrHashS rfl _ rfl ?_)
        | (go_at_call 9; (refine (numberM_calls _ 100 _ (by omega) (by omega)).mono ?_); rintro e wz ⟨r0, hr0, rfl, rfl⟩)
        | fail)
      · have htc : s ≤ cb := by omega
        have htcn : (s : Int) ≤ cb := by omega
        obtain ⟨zs, hzs⟩ : ∃ zs, Hd (ys.take s = zs) := ⟨_, hid rfl⟩
        have HZL : Hd (zs.length = s) := hid (by rw [← hzs.out, List.length_take, HYL.out]; omega)
        have HGE : Hd (getOf D 0 (s : Int) [itm D (s : Int) ys true] = (zs, none)) := hid (by rw [gotI (by rw [HYL.out]; omega), Int.toNat_natCast, show (0 : Int).toNat = 0 from rfl, List.drop_zero, hzs.out])
        refine (getH D 0 (s : Int) (zs, none) _ hE hS (hgy true) HDL.out (by omega) (by omega) HGE.out touchI).mono ?_
        rintro e w14 ⟨A5, m5, c5, rfl, hm5, hc5, hA5, F14, hSn⟩
        have hm5' : zs.length = m5 := hm5
        rw [HZL.out] at hm5'
        subst hm5'
        clear hS hm5
        have hS : HS NoF w w14 [entSto F14 gs ⟨1000, 3, [itm D (s : Int) ys true]⟩, .blk g7 30 (ints .u8 D), .os 5 (.slice (some ⟨ga, oa, none⟩) s c) (ints .u8 xs), .os 5 (.slice (some ⟨gb, ob, none⟩) s cb) (ints .u8 ys), .os 5 (.slice A5 s c5) (ints .u8 zs)] := hSn.perm (List.Perm.cons _ (List.perm_append_comm (l₁ := [Ent.os 5 (.slice A5 s c5) (ints .u8 zs)]) (l₂ := [Ent.blk g7 30 (ints .u8 D), Ent.os 5 (.slice (some ⟨ga, oa, none⟩) s c) (ints .u8 xs), Ent.os 5 (.slice (some ⟨gb, ob, none⟩) s cb) (ints .u8 ys)])))
        clear hSn
        simp only [erV]
        have hry := ((hS.os 3 rfl).rd rfl).take s
        rw [hzs.out] at hry
        go_wp2_with (first
          | (refine hs_loadW hS 1 rfl rfl 30 _ rfl rfl 32 infoHashS (by simp [HDL.out]) _ arrHashS rfl _ rfl ?_)
          | (go_at_call 22; refine (same_calls zs zs A5 (some ⟨gb, ob, none⟩) c5 cb s s _ HZL.out.symm HZL.out.symm ((hS.os 4 rfl).rd rfl) hry (by rw [HZL.out]; omega) (by rw [HZL.out]; omega)).mono ?_; rintro e w26 ⟨rfl, n26, hw26⟩; (replace hS := hS.drewN n26); (rw [← hw26] at hS); clear hw26 hry; (have hdy : decide (zs = zs) = true := by simp); rw [hdy])
          | fail)
        go_ret
        exact ⟨rfl, hS.bel⟩
      · have htc : r0 ≤ cb := by omega
        have htcn : (r0 : Int) ≤ cb := by omega
        obtain ⟨zs, hzs⟩ : ∃ zs, Hd (ys.take r0 = zs) := ⟨_, hid rfl⟩
        have HZL : Hd (zs.length = r0) := hid (by rw [← hzs.out, List.length_take, HYL.out]; omega)
        have HGE : Hd (getOf D 0 (r0 : Int) [itm D (s : Int) ys true] = (zs, none)) := hid (by rw [gotI (by rw [HYL.out]; omega), Int.toNat_natCast, show (0 : Int).toNat = 0 from rfl, List.drop_zero, hzs.out])
        refine (getH D 0 (r0 : Int) (zs, none) _ hE hS (hgy true) HDL.out (by omega) (by omega) HGE.out touchI).mono ?_
        rintro e w14 ⟨A5, m5, c5, rfl, hm5, hc5, hA5, F14, hSn⟩
        have hm5' : zs.length = m5 := hm5
        rw [HZL.out] at hm5'
        subst hm5'
        clear hS hm5
        have hS : HS NoF w w14 [entSto F14 gs ⟨1000, 3, [itm D (s : Int) ys true]⟩, .blk g7 30 (ints .u8 D), .os 5 (.slice (some ⟨ga, oa, none⟩) s c) (ints .u8 xs), .os 5 (.slice (some ⟨gb, ob, none⟩) s cb) (ints .u8 ys), .os 5 (.slice A5 r0 c5) (ints .u8 zs)] := hSn.perm (List.Perm.cons _ (List.perm_append_comm (l₁ := [Ent.os 5 (.slice A5 r0 c5) (ints .u8 zs)]) (l₂ := [Ent.blk g7 30 (ints .u8 D), Ent.os 5 (.slice (some ⟨ga, oa, none⟩) s c) (ints .u8 xs), Ent.os 5 (.slice (some ⟨gb, ob, none⟩) s cb) (ints .u8 ys)])))
        clear hSn
        simp only [erV]
        have hry := ((hS.os 3 rfl).rd rfl).take r0
        rw [hzs.out] at hry
        go_wp2_with (first
          | (refine hs_loadW hS 1 rfl rfl 30 _ rfl rfl 32 infoHashS (by simp [HDL.out]) _ arrHashS rfl _ rfl ?_)
          | (go_at_call 22; refine (same_calls zs zs A5 (some ⟨gb, ob, none⟩) c5 cb r0 r0 _ HZL.out.symm HZL.out.symm ((hS.os 4 rfl).rd rfl) hry (by rw [HZL.out]; omega) (by rw [HZL.out]; omega)).mono ?_; rintro e w26 ⟨rfl, n26, hw26⟩; (replace hS := hS.drewN n26); (rw [← hw26] at hS); clear hw26 hry; (have hdy : decide (zs = zs) = true := by simp); rw [hdy])
          | fail)
        go_ret
        exact ⟨rfl, hS.bel⟩
end Go.Proofs.YtinpilfnnmkpoaaDoor
