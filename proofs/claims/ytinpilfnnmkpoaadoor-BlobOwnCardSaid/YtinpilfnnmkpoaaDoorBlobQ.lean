/- The store's Commit. -/
import Derived.Test.YtinpilfnnmkpoaaDoorBlobO
import Derived.Test.YtinpilfnnmkpoaaDoorShaI
namespace Go.Proofs.YtinpilfnnmkpoaaDoor
open Go.RowKit Go.Cour
def commitOf (id : List Int) (l : List Item) : Option Nat := match l[posOf id l]? with
  | none => some 13
  | some x => if x.done = true then none else if (x.b.length : Int) < x.n then some 16 else if shaOf x.b = id then none else some 15
def commitL (id : List Int) (l : List Item) : List Item := match l[posOf id l]? with
  | none => l
  | some x => l.set (posOf id l) { x with age := 0, done := x.done || (commitOf id l == none) }
theorem commitL_err {id : List Int} {l : List Item} (h : commitOf id l ≠ none) : commitL id l = touch id l := by
  unfold commitL touch
  cases hx : l[posOf id l]? with
  | none => rfl
  | some x =>
    cases hc : commitOf id l with
    | none => exact absurd hc h
    | some k => simp
theorem commitL_done {id : List Int} {l : List Item} {x : Item} (hx : l[posOf id l]? = some x) (hd : x.done = true) : commitL id l = touch id l := by
  unfold commitL touch
  rw [hx]; simp [hd]
theorem commitL_ok {id : List Int} {l : List Item} {x : Item} (hx : l[posOf id l]? = some x) (h : commitOf id l = none) : commitL id l = l.set (posOf id l) { x with age := 0, done := true } := by
  unfold commitL
  rw [hx]; simp [h]
theorem itemC_done (x : Item) (vb : Value) (h : x.id.length = 32) (d : Bool) : (itemC x vb).set 34 (.bool d) = itemC { x with done := d } vb := by
  have hl : (ints .u8 x.id).length = 32 := by simp [h]
  simp only [itemC]
  rw [List.set_append_right _ _ (by omega), hl]
  rfl
theorem os_cell {w : World} {e : TypeId} {g o n c j : Nat} {cs : List Value} {u : Value} (h : OwnS w e (.slice (some ⟨g, o, none⟩) n c) cs) (hj : cs[j]? = some u) : w.cell? ⟨g, o + j, none⟩ = some u := by
  obtain ⟨A, c', hv, _, _, _, _, hc⟩ := h.parts
  injection hv with hv
  obtain ⟨g', o', he, hcell⟩ := hc j u hj
  rw [← hv] at he
  injection he with he; injection he with h1 h2
  subst h1 h2
  exact hcell
theorem one_list {w : World} {g o i m c : Nat} {A : Option Addr} {xs bs : List Int} (hi : [xs][i]? = some bs) (hc : w.cell? ⟨g, o + 0, none⟩ = some (.slice A m c)) (hm : xs.length = m) (hmc : m ≤ c) (hr : Rd w A .u8 xs) :
    ∃ (Ai : Option Addr) (ni ci : Nat), w.cell? ⟨g, o + i, none⟩ = some (.slice Ai ni ci) ∧ bs.length = ni ∧ ni ≤ ci ∧ Rd w Ai .u8 bs := by
  cases i with
  | zero => simp at hi; subst hi; exact ⟨A, m, c, hc, hm, hmc, hr⟩
  | succ i => simp at hi
theorem undLB : Tryd.prog.underlying 79 = some (.slice 41) := by kernel_rfl
theorem zeroBytesS : (((Tryd.prog.info? 41).bind (·.zero)).map (·.cells.size)) = some 1 := by kernel_rfl
set_option maxHeartbeats 2000000 in
set_option maxRecDepth 100000 in
theorem commit_calls {w : World} {P : Nat → Addr} {B : Nat} {F F2 : Nat → Prop} {gs : Nat} {st : StoreD} {v : Value} {vs : List Value} (id : List Int) (hE : ErrsAt w P B) (hBw : B ≤ w.heap.size) (hF : ∀ k, F k → B ≤ k) (h : StoreAt w F gs st v vs F2) (hG : Good st) (hid' : id.length = 32)
    (hk : posOf id st.l < st.l.length) (hB8 : ∀ x ∈ st.l, ∀ b ∈ x.b, B8 b) :
    Calls Tryd.prog 21 #[.pointer (some ⟨gs, 0, none⟩), .agg (ints .u8 id).toArray] w fun e w' => e = .returned (erV P (commitOf id st.l)) ∧ Becomes w F gs w' { st with l := commitL id st.l } := by
  have HI := hid hid'
  have H := hid h
  have HLEN := hid (show st.l.length ≤ 1000000 by have := hG.len; omega)
  clear hid'
  obtain ⟨x, g, vb, hx, hu, hxl, hb, ho', hFg, hFb, hgs, hvg, hvb, hback⟩ := h.focus _ hk
  have hxn := hG.n x (List.mem_of_getElem? hx)
  have hxb := hG.b x (List.mem_of_getElem? hx)
  have HX8 := hid (hB8 x (List.mem_of_getElem? hx))
  have hr := hid (show vs.getD (posOf id st.l) (.pointer none) = .pointer (some ⟨g, 0, none⟩) by rw [List.getD_eq_getElem?_getD, hu]; rfl)
  have HT := hid (touch_some hx)
  have HX := hid hx
  have HK := hid hk
  have HU := hid hu
  clear hback ho' hgs hvg hvb hFg hFb hk h hb hu hB8
  obtain ⟨xb, hbs⟩ : ∃ xb, Hd (x.b = xb) := ⟨_, ⟨rfl⟩⟩
  obtain ⟨m, hm⟩ : ∃ m, Hd (xb.length = m) := ⟨_, ⟨rfl⟩⟩
  obtain ⟨xn, hxnn⟩ : ∃ xn, Hd (x.n = xn) := ⟨_, ⟨rfl⟩⟩
  have hgo : Hd (commitOf id st.l = if x.done = true then none else if (m : Int) < xn then some 16 else if shaOf xb = id then none else some 15) := hid (by unfold commitOf; rw [hx]; simp only [hbs.out, hm.out, hxnn.out])
  rw [hbs.out, hm.out, hxnn.out] at hxb
  rw [hbs.out] at HX8
  rw [hxnn.out] at hxn
  clear hx
  by_cases hd : x.done = true
  · rw [if_pos hd] at hgo
    have hpl := hid (commitL_done HX.out hd)
    rw [hgo.out, hpl.out]
    go_enter Tryd.func21, Tryd.ntmps21
    go_wp2_with (first
      | (refine box_blk rfl 30 _ rfl _ rfl (ints .u8 id) rfl ?_; intro gb w1 hgb hbb hB1 hs1
         clear hs1)
      | (refine load_blk rfl 30 _ rfl gb rfl 30 _ hbb 32 5 arrHash (by simp [ints, HI.out]) infoHash ?_)
      | (go_at_call 27; refine (named_calls id (H.out.below hB1) HI.out HLEN.out).mono ?_
         rintro e w2 ⟨he, ⟨F', F2', hst, hsub⟩, hup⟩
         rw [hr.out] at he
         subst he
         have hu2 := (Upd.of_below hB1 F).trans hup (fun j _ hj => hj)
         have hsub2 : Sub F' F w := fun k hk => (hsub k hk).imp (fun h => h) (fun h => by have := hB1.size; omega)
         have e16 := (hE.below (hu2.below hBw hF)).errs.cell 16 (by omega)
         have e1 := (hE.below (hu2.below hBw hF)).errs.cell 15 (by omega)
         simp only [globs, List.getD_cons_zero, List.getD_cons_succ] at e16 e1
         obtain ⟨x2, g2, vb2, hx2, hv2, hxl2, hb2, ho2, hFg2, hFb2, hgs2, hvg2, hvb22, hbk2⟩ := hst.focus (posOf id st.l) (by rw [HT.out]; simpa using HK.out)
         rw [HU.out] at hv2
         injection hv2 with hv2; injection hv2 with hv2; injection hv2 with hv2; injection hv2 with hv2
         subst hv2
         have hx3 : x2 = { x with age := 0 } := by
           rw [HT.out, List.getElem?_set_self HK.out] at hx2
           injection hx2 with hx2; exact hx2.symm
         obtain ⟨A2, c2, hvb2, hc2, hA2, hr2⟩ := ho2.parts
         have hb3 : x2.b = xb := by rw [hx3]; exact hbs.out
         rw [hb3] at hvb2 hc2 hr2
         rw [hm.out] at hvb2 hc2
         have c33 : w2.cell? ⟨g, 33, none⟩ = some (.slice A2 m c2) := by rw [hb2.cell]; have := itemC_at x2 vb2 hxl2 1; rw [this]; simp [hvb2]
         have c34 : w2.cell? ⟨g, 34, none⟩ = some (.bool x.done) := by rw [hb2.cell]; have := itemC_at x2 vb2 hxl2 2; rw [this]; simp [hx3]
         have c32 : w2.cell? ⟨g, 32, none⟩ = some (.int .i64 xn) := by rw [hb2.cell]; have := itemC_at x2 vb2 hxl2 0; rw [this]; simp [hx3, hxnn.out]
         have HB2 := hid hb2
         have HO2 := hid ho2
         have HX2 := hid hx3
         have HB3 := hid hb3
         replace hvb2 := hid hvb2
         have HR2 := hid hr2
         have HA2 := hid hA2
         have HGB := hid (hbb.upd hup (fun hf => by have := H.out.lt gb hf; omega))
         clear hb2 ho2 hx2 hx3 hb3 hbb hr2 hA2 hgs2 hvg2 hvb22)
      | fail)
    go_wp2_with fail
    go_ret
    exact ⟨rfl, F', v, vs, F2', hst, hsub2, hu2⟩
  · have hd2 : x.done = false := by simpa using hd
    rw [if_neg hd] at hgo
    by_cases hlt : (m : Int) < xn
    · rw [if_pos hlt] at hgo
      have hpl := hid (commitL_err (id := id) (l := st.l) (by rw [hgo.out]; simp))
      rw [hgo.out, hpl.out]
      go_enter Tryd.func21, Tryd.ntmps21
      go_wp2_with (first
        | (refine box_blk rfl 30 _ rfl _ rfl (ints .u8 id) rfl ?_; intro gb w1 hgb hbb hB1 hs1
           clear hs1)
        | (refine load_blk rfl 30 _ rfl gb rfl 30 _ hbb 32 5 arrHash (by simp [ints, HI.out]) infoHash ?_)
        | (go_at_call 27; refine (named_calls id (H.out.below hB1) HI.out HLEN.out).mono ?_
           rintro e w2 ⟨he, ⟨F', F2', hst, hsub⟩, hup⟩
           rw [hr.out] at he
           subst he
           have hu2 := (Upd.of_below hB1 F).trans hup (fun j _ hj => hj)
           have hsub2 : Sub F' F w := fun k hk => (hsub k hk).imp (fun h => h) (fun h => by have := hB1.size; omega)
           have e16 := (hE.below (hu2.below hBw hF)).errs.cell 16 (by omega)
           have e1 := (hE.below (hu2.below hBw hF)).errs.cell 15 (by omega)
           simp only [globs, List.getD_cons_zero, List.getD_cons_succ] at e16 e1
           obtain ⟨x2, g2, vb2, hx2, hv2, hxl2, hb2, ho2, hFg2, hFb2, hgs2, hvg2, hvb22, hbk2⟩ := hst.focus (posOf id st.l) (by rw [HT.out]; simpa using HK.out)
           rw [HU.out] at hv2
           injection hv2 with hv2; injection hv2 with hv2; injection hv2 with hv2; injection hv2 with hv2
           subst hv2
           have hx3 : x2 = { x with age := 0 } := by
             rw [HT.out, List.getElem?_set_self HK.out] at hx2
             injection hx2 with hx2; exact hx2.symm
           obtain ⟨A2, c2, hvb2, hc2, hA2, hr2⟩ := ho2.parts
           have hb3 : x2.b = xb := by rw [hx3]; exact hbs.out
           rw [hb3] at hvb2 hc2 hr2
           rw [hm.out] at hvb2 hc2
           have c33 : w2.cell? ⟨g, 33, none⟩ = some (.slice A2 m c2) := by rw [hb2.cell]; have := itemC_at x2 vb2 hxl2 1; rw [this]; simp [hvb2]
           have c34 : w2.cell? ⟨g, 34, none⟩ = some (.bool x.done) := by rw [hb2.cell]; have := itemC_at x2 vb2 hxl2 2; rw [this]; simp [hx3]
           have c32 : w2.cell? ⟨g, 32, none⟩ = some (.int .i64 xn) := by rw [hb2.cell]; have := itemC_at x2 vb2 hxl2 0; rw [this]; simp [hx3, hxnn.out]
           have HB2 := hid hb2
           have HO2 := hid ho2
           have HX2 := hid hx3
           have HB3 := hid hb3
           replace hvb2 := hid hvb2
           have HR2 := hid hr2
           have HA2 := hid hA2
           have HGB := hid (hbb.upd hup (fun hf => by have := H.out.lt gb hf; omega))
           clear hb2 ho2 hx2 hx3 hb3 hbb hr2 hA2 hgs2 hvg2 hvb22)
        | fail)
      go_quiet (fail)
      go_wp2_with fail
      go_ret
      exact ⟨rfl, F', v, vs, F2', hst.below (below_drewN (Below.refl _ _) _), hsub2, hu2.drewN _⟩
    · rw [if_neg hlt] at hgo
      have hlt2 : xn ≤ (m : Int) := by omega
      obtain ⟨ds, hds⟩ : ∃ ds, Hd (shaOf xb = ds) := ⟨_, hid rfl⟩
      have HDL : Hd (ds.length = 32) := hid (hds.out ▸ shaOf_length xb)
      rw [hds.out] at hgo
      have HEQ := hid fun w => run_equalIn_ints (P := Tryd.prog) w 9998 30 5 32 .u8 arrHash undU8B sizeU8B ds id HDL.out HI.out
      have hpos : Hd (some ⟨0, 0, none⟩ = (some ⟨0, 0, none⟩ : Option Addr)) := hid rfl
      by_cases hde : ds = id
      · rw [if_pos hde] at hgo
        have hpl := hid (commitL_ok HX.out hgo.out)
        rw [hgo.out, hpl.out]
        have hdd : decide (ds = id) = true := by simpa using hde
        clear hde
        go_enter Tryd.func21, Tryd.ntmps21
        go_wp2_with (first
          | (refine box_blk rfl 30 _ rfl _ rfl (ints .u8 id) rfl ?_; intro gb w1 hgb hbb hB1 hs1
             clear hs1)
          | (refine load_blk rfl 30 _ rfl gb rfl 30 _ hbb 32 5 arrHash (by simp [ints, HI.out]) infoHash ?_)
          | (go_at_call 27; refine (named_calls id (H.out.below hB1) HI.out HLEN.out).mono ?_
             rintro e w2 ⟨he, ⟨F', F2', hst, hsub⟩, hup⟩
             rw [hr.out] at he
             subst he
             have hu2 := (Upd.of_below hB1 F).trans hup (fun j _ hj => hj)
             have hsub2 : Sub F' F w := fun k hk => (hsub k hk).imp (fun h => h) (fun h => by have := hB1.size; omega)
             have e16 := (hE.below (hu2.below hBw hF)).errs.cell 16 (by omega)
             have e1 := (hE.below (hu2.below hBw hF)).errs.cell 15 (by omega)
             simp only [globs, List.getD_cons_zero, List.getD_cons_succ] at e16 e1
             obtain ⟨x2, g2, vb2, hx2, hv2, hxl2, hb2, ho2, hFg2, hFb2, hgs2, hvg2, hvb22, hbk2⟩ := hst.focus (posOf id st.l) (by rw [HT.out]; simpa using HK.out)
             rw [HU.out] at hv2
             injection hv2 with hv2; injection hv2 with hv2; injection hv2 with hv2; injection hv2 with hv2
             subst hv2
             have hx3 : x2 = { x with age := 0 } := by
               rw [HT.out, List.getElem?_set_self HK.out] at hx2
               injection hx2 with hx2; exact hx2.symm
             obtain ⟨A2, c2, hvb2, hc2, hA2, hr2⟩ := ho2.parts
             have hb3 : x2.b = xb := by rw [hx3]; exact hbs.out
             rw [hb3] at hvb2 hc2 hr2
             rw [hm.out] at hvb2 hc2
             have c33 : w2.cell? ⟨g, 33, none⟩ = some (.slice A2 m c2) := by rw [hb2.cell]; have := itemC_at x2 vb2 hxl2 1; rw [this]; simp [hvb2]
             have c34 : w2.cell? ⟨g, 34, none⟩ = some (.bool x.done) := by rw [hb2.cell]; have := itemC_at x2 vb2 hxl2 2; rw [this]; simp [hx3]
             have c32 : w2.cell? ⟨g, 32, none⟩ = some (.int .i64 xn) := by rw [hb2.cell]; have := itemC_at x2 vb2 hxl2 0; rw [this]; simp [hx3, hxnn.out]
             have HB2 := hid hb2
             have HO2 := hid ho2
             have HX2 := hid hx3
             have HB3 := hid hb3
             replace hvb2 := hid hvb2
             have HR2 := hid hr2
             have HA2 := hid hA2
             have HGB := hid (hbb.upd hup (fun hf => by have := H.out.lt gb hf; omega))
             clear hb2 ho2 hx2 hx3 hb3 hbb hr2 hA2 hgs2 hvg2 hvb22)
          | fail)
        go_quiet (fail)
        rename_i nq
        go_wp2_with fail
        have hS : HS NoF w2 (w2.drewN nq) [] := (HS.start NoF w2).drewN nq
        have HBK := hid hbk2
        have heq := HEQ.out
        clear hbk2
        try go_wp2_with fail
        refine wp_region_S (F := NoF) (w0 := w2) (L0 := []) [] [4, 5]
          (fun iK u E => match iK with
            | _ => False)
          ([]) (by kernel_rfl) (by kernel_rfl) hS ?_
        show wpS _ _ _ _ _ _ _ _ _ _ [0, 1, 2, 3, 4, 5, 6, 7, 8] _
        apply wpS_read (i := 0) rfl rfl ⟨_, hS⟩ rfl -- Op.move t5
        · intro w' hT'
          simp only [List.getElem_toArray, List.getElem_cons_zero, List.getElem_cons_succ]
          go_wp2_with fail
          first | exact ⟨rfl, rfl, rfl⟩ | rfl
        apply wpS_read (i := 1) rfl rfl ⟨_, hS⟩ rfl -- Op.nilCheck t31
        · intro w' hT'
          simp only [List.getElem_toArray, List.getElem_cons_zero, List.getElem_cons_succ]
          go_wp2_with fail
          first | exact ⟨rfl, rfl, rfl⟩ | rfl
        apply wpS_read (i := 2) rfl rfl ⟨_, hS⟩ rfl -- Op.fieldAddr 62 t32 2
        · intro w' hT'
          simp only [List.getElem_toArray, List.getElem_cons_zero, List.getElem_cons_succ]
          go_wp2_with fail
          first | exact ⟨rfl, rfl, rfl⟩ | rfl
        apply wpS_read (i := 3) rfl rfl ⟨_, hS⟩ rfl -- Op.load 41 t33
        · intro w' hT'
          simp only [List.getElem_toArray, List.getElem_cons_zero, List.getElem_cons_succ]
          have k33 := hT'.oldCell c33 (fun h => h)
          go_wp2_with (first
            | (refine load_blk rfl 30 _ rfl gb rfl 30 _ (hT'.oldBlk HGB.out (fun h => h)) 32 5 arrHash (by simp [ints, HI.out]) infoHash ?_)
            | fail)
          first | exact ⟨rfl, rfl, rfl⟩ | rfl
        refine wpS_hard (i := 4) rfl rfl ?_ -- Op.buildSlice 79 1 #[(0, t34)]
        intro w4 hT
        simp only [List.getElem_toArray, List.getElem_cons_zero, List.getElem_cons_succ]
        go_wp2_with (first
          | (refine hs_one hT rfl 79 41 _ rfl undLB sizeBytesS zeroBytesS (.slice A2 m c2) rfl rfl _ rfl ?_; clear hT; intro go wo hgo hBo hT)
          | fail)
        refine HardP.mk' ([.os 41 (.slice (some ⟨go, 0, none⟩) 1 1) [.slice A2 m c2]]) rfl ?_ ?_
        · exact hT
        clear hT
        clear hgo hBo
        refine wpS_hard (i := 5) rfl rfl ?_ -- Op.call { value (Operand.func 34), args := #[t35], argTypes := #[79]
        intro w5 hT
        replace hT : HS NoF w2 w5 [.os 41 (.slice (some ⟨go, 0, none⟩) 1 1) [.slice A2 m c2]] := hT
        simp only [List.getElem_toArray, List.getElem_cons_zero, List.getElem_cons_succ]
        go_wp2_with (first
          | (go_at_call 34; refine (sum_calls [xb] 1 1 (some ⟨go, 0, none⟩) _ rfl (.inr ⟨go, 0, rfl, fun i bs hi => one_list hi (os_cell (hT.os 0 rfl) rfl) hm.out hc2 (hT.oldRd HR2.out (fun _ _ _ h => h))⟩) (fun bs hbs => by simp at hbs; subst hbs; exact HX8.out) (by simp; have := hm.out; omega) (by decide)).mono ?_; rintro e wz ⟨rfl, hB⟩; rw [show [xb].flatten = xb from by simp, hds.out])
          | fail)
        refine HardP.mk' ([.os 41 (.slice (some ⟨go, 0, none⟩) 1 1) [.slice A2 m c2]]) rfl ?_ ?_
        · exact hT.below hB
        clear hT
        clear hB
        apply wpS_read (i := 6) rfl rfl ⟨_, hS⟩ rfl -- Op.load 30 t3
        · intro w' hT'
          simp only [List.getElem_toArray, List.getElem_cons_zero, List.getElem_cons_succ]
          have k33 := hT'.oldCell c33 (fun h => h)
          go_wp2_with (first
            | (refine load_blk rfl 30 _ rfl gb rfl 30 _ (hT'.oldBlk HGB.out (fun h => h)) 32 5 arrHash (by simp [ints, HI.out]) infoHash ?_)
            | fail)
          first | exact ⟨rfl, rfl, rfl⟩ | rfl
        apply wpS_read (i := 7) rfl rfl ⟨_, hS⟩ rfl -- Op.binOp BinOp.neq 30 t36 t37 30
        · intro w' hT'
          simp only [List.getElem_toArray, List.getElem_cons_zero, List.getElem_cons_succ]
          go_wp2_with (first
            | (refine load_blk rfl 30 _ rfl gb rfl 30 _ (hT'.oldBlk HGB.out (fun h => h)) 32 5 arrHash (by simp [ints, HI.out]) infoHash ?_)
            | fail)
          first | exact ⟨rfl, rfl, rfl⟩ | rfl
        apply wpS_read (i := 8) rfl rfl ⟨_, hS⟩ rfl -- Op.assign t38
        · intro w' hT'
          simp only [List.getElem_toArray, List.getElem_cons_zero, List.getElem_cons_succ]
          go_wp2_with fail
          first | exact ⟨rfl, rfl, rfl⟩ | rfl
        refine wpS_end ?_
        intro wz hT
        try dsimp only
        clear heq
        have hbg := hT.oldBlk HB2.out (fun h => h)
        have cd := hT.oldCell c34 (fun h => h)
        have fz := hbg.frozen 34
        go_wp2_with fail
        go_ret
        have hneg : vb2.ownBlock ≠ some g := blk_own_ne HB2.out HO2.out (by decide)
        obtain ⟨F3, F4, hst3, hsub3⟩ := HBK.out (wz.setCell ⟨g, 34, none⟩ (.bool true)) { x2 with done := true } vb2 (by rw [← itemC_done x2 vb2 hxl2]; exact hbg.set 34 _) hxl2
          ((HO2.out.kept' fun j hj => hT.old (HO2.out.lt_size j hj) (fun h => h)).setOther (fun he => hneg he.symm) _) (fun k hk => .inl hk) (fun k hk hne hno => by
            rw [Below.heap_setCell _ _ _ _ hne]; exact hT.old (hst.lt k hk) (fun h => h))
        have hl2 : (touch id st.l).set (posOf id st.l) { x2 with done := true } = st.l.set (posOf id st.l) { x with age := 0, done := true } := by rw [HT.out, HX2.out, List.set_set]
        rw [hl2] at hst3
        refine ⟨rfl, F3, v, vs, F4, hst3, fun k hk => (hsub3 k hk).elim (fun h => hsub2 k h) (fun h => .inr (Nat.le_trans hu2.size h)), ?_⟩
        exact (hu2.trans (Upd.of_below hT.bel F) (fun _ _ h => h)).trans (Upd.setCell wz ⟨g, 34, none⟩ (.bool true)) (fun j hj hjg => by
          have hjg' : j = g := hjg
          subst hjg'
          rcases hsub2 j hFg2 with h1 | h1
          · exact h1
          · omega)
      · rw [if_neg hde] at hgo
        have hpl := hid (commitL_err (id := id) (l := st.l) (by rw [hgo.out]; simp))
        rw [hgo.out, hpl.out]
        have hdd : decide (ds = id) = false := by simpa using hde
        clear hde
        go_enter Tryd.func21, Tryd.ntmps21
        go_wp2_with (first
          | (refine box_blk rfl 30 _ rfl _ rfl (ints .u8 id) rfl ?_; intro gb w1 hgb hbb hB1 hs1
             clear hs1)
          | (refine load_blk rfl 30 _ rfl gb rfl 30 _ hbb 32 5 arrHash (by simp [ints, HI.out]) infoHash ?_)
          | (go_at_call 27; refine (named_calls id (H.out.below hB1) HI.out HLEN.out).mono ?_
             rintro e w2 ⟨he, ⟨F', F2', hst, hsub⟩, hup⟩
             rw [hr.out] at he
             subst he
             have hu2 := (Upd.of_below hB1 F).trans hup (fun j _ hj => hj)
             have hsub2 : Sub F' F w := fun k hk => (hsub k hk).imp (fun h => h) (fun h => by have := hB1.size; omega)
             have e16 := (hE.below (hu2.below hBw hF)).errs.cell 16 (by omega)
             have e1 := (hE.below (hu2.below hBw hF)).errs.cell 15 (by omega)
             simp only [globs, List.getD_cons_zero, List.getD_cons_succ] at e16 e1
             obtain ⟨x2, g2, vb2, hx2, hv2, hxl2, hb2, ho2, hFg2, hFb2, hgs2, hvg2, hvb22, hbk2⟩ := hst.focus (posOf id st.l) (by rw [HT.out]; simpa using HK.out)
             rw [HU.out] at hv2
             injection hv2 with hv2; injection hv2 with hv2; injection hv2 with hv2; injection hv2 with hv2
             subst hv2
             have hx3 : x2 = { x with age := 0 } := by
               rw [HT.out, List.getElem?_set_self HK.out] at hx2
               injection hx2 with hx2; exact hx2.symm
             obtain ⟨A2, c2, hvb2, hc2, hA2, hr2⟩ := ho2.parts
             have hb3 : x2.b = xb := by rw [hx3]; exact hbs.out
             rw [hb3] at hvb2 hc2 hr2
             rw [hm.out] at hvb2 hc2
             have c33 : w2.cell? ⟨g, 33, none⟩ = some (.slice A2 m c2) := by rw [hb2.cell]; have := itemC_at x2 vb2 hxl2 1; rw [this]; simp [hvb2]
             have c34 : w2.cell? ⟨g, 34, none⟩ = some (.bool x.done) := by rw [hb2.cell]; have := itemC_at x2 vb2 hxl2 2; rw [this]; simp [hx3]
             have c32 : w2.cell? ⟨g, 32, none⟩ = some (.int .i64 xn) := by rw [hb2.cell]; have := itemC_at x2 vb2 hxl2 0; rw [this]; simp [hx3, hxnn.out]
             have HB2 := hid hb2
             have HO2 := hid ho2
             have HX2 := hid hx3
             have HB3 := hid hb3
             replace hvb2 := hid hvb2
             have HR2 := hid hr2
             have HA2 := hid hA2
             have HGB := hid (hbb.upd hup (fun hf => by have := H.out.lt gb hf; omega))
             clear hb2 ho2 hx2 hx3 hb3 hbb hr2 hA2 hgs2 hvg2 hvb22)
          | fail)
        go_quiet (fail)
        rename_i nq
        go_wp2_with fail
        have hS : HS NoF w2 (w2.drewN nq) [] := (HS.start NoF w2).drewN nq
        have HBK := hid hbk2
        have heq := HEQ.out
        clear hbk2
        try go_wp2_with fail
        refine wp_region_S (F := NoF) (w0 := w2) (L0 := []) [] [4, 5]
          (fun iK u E => match iK with
            | _ => False)
          ([]) (by kernel_rfl) (by kernel_rfl) hS ?_
        show wpS _ _ _ _ _ _ _ _ _ _ [0, 1, 2, 3, 4, 5, 6, 7, 8] _
        apply wpS_read (i := 0) rfl rfl ⟨_, hS⟩ rfl -- Op.move t5
        · intro w' hT'
          simp only [List.getElem_toArray, List.getElem_cons_zero, List.getElem_cons_succ]
          go_wp2_with fail
          first | exact ⟨rfl, rfl, rfl⟩ | rfl
        apply wpS_read (i := 1) rfl rfl ⟨_, hS⟩ rfl -- Op.nilCheck t31
        · intro w' hT'
          simp only [List.getElem_toArray, List.getElem_cons_zero, List.getElem_cons_succ]
          go_wp2_with fail
          first | exact ⟨rfl, rfl, rfl⟩ | rfl
        apply wpS_read (i := 2) rfl rfl ⟨_, hS⟩ rfl -- Op.fieldAddr 62 t32 2
        · intro w' hT'
          simp only [List.getElem_toArray, List.getElem_cons_zero, List.getElem_cons_succ]
          go_wp2_with fail
          first | exact ⟨rfl, rfl, rfl⟩ | rfl
        apply wpS_read (i := 3) rfl rfl ⟨_, hS⟩ rfl -- Op.load 41 t33
        · intro w' hT'
          simp only [List.getElem_toArray, List.getElem_cons_zero, List.getElem_cons_succ]
          have k33 := hT'.oldCell c33 (fun h => h)
          go_wp2_with (first
            | (refine load_blk rfl 30 _ rfl gb rfl 30 _ (hT'.oldBlk HGB.out (fun h => h)) 32 5 arrHash (by simp [ints, HI.out]) infoHash ?_)
            | fail)
          first | exact ⟨rfl, rfl, rfl⟩ | rfl
        refine wpS_hard (i := 4) rfl rfl ?_ -- Op.buildSlice 79 1 #[(0, t34)]
        intro w4 hT
        simp only [List.getElem_toArray, List.getElem_cons_zero, List.getElem_cons_succ]
        go_wp2_with (first
          | (refine hs_one hT rfl 79 41 _ rfl undLB sizeBytesS zeroBytesS (.slice A2 m c2) rfl rfl _ rfl ?_; clear hT; intro go wo hgo hBo hT)
          | fail)
        refine HardP.mk' ([.os 41 (.slice (some ⟨go, 0, none⟩) 1 1) [.slice A2 m c2]]) rfl ?_ ?_
        · exact hT
        clear hT
        clear hgo hBo
        refine wpS_hard (i := 5) rfl rfl ?_ -- Op.call { value (Operand.func 34), args := #[t35], argTypes := #[79]
        intro w5 hT
        replace hT : HS NoF w2 w5 [.os 41 (.slice (some ⟨go, 0, none⟩) 1 1) [.slice A2 m c2]] := hT
        simp only [List.getElem_toArray, List.getElem_cons_zero, List.getElem_cons_succ]
        go_wp2_with (first
          | (go_at_call 34; refine (sum_calls [xb] 1 1 (some ⟨go, 0, none⟩) _ rfl (.inr ⟨go, 0, rfl, fun i bs hi => one_list hi (os_cell (hT.os 0 rfl) rfl) hm.out hc2 (hT.oldRd HR2.out (fun _ _ _ h => h))⟩) (fun bs hbs => by simp at hbs; subst hbs; exact HX8.out) (by simp; have := hm.out; omega) (by decide)).mono ?_; rintro e wz ⟨rfl, hB⟩; rw [show [xb].flatten = xb from by simp, hds.out])
          | fail)
        refine HardP.mk' ([.os 41 (.slice (some ⟨go, 0, none⟩) 1 1) [.slice A2 m c2]]) rfl ?_ ?_
        · exact hT.below hB
        clear hT
        clear hB
        apply wpS_read (i := 6) rfl rfl ⟨_, hS⟩ rfl -- Op.load 30 t3
        · intro w' hT'
          simp only [List.getElem_toArray, List.getElem_cons_zero, List.getElem_cons_succ]
          have k33 := hT'.oldCell c33 (fun h => h)
          go_wp2_with (first
            | (refine load_blk rfl 30 _ rfl gb rfl 30 _ (hT'.oldBlk HGB.out (fun h => h)) 32 5 arrHash (by simp [ints, HI.out]) infoHash ?_)
            | fail)
          first | exact ⟨rfl, rfl, rfl⟩ | rfl
        apply wpS_read (i := 7) rfl rfl ⟨_, hS⟩ rfl -- Op.binOp BinOp.neq 30 t36 t37 30
        · intro w' hT'
          simp only [List.getElem_toArray, List.getElem_cons_zero, List.getElem_cons_succ]
          go_wp2_with (first
            | (refine load_blk rfl 30 _ rfl gb rfl 30 _ (hT'.oldBlk HGB.out (fun h => h)) 32 5 arrHash (by simp [ints, HI.out]) infoHash ?_)
            | fail)
          first | exact ⟨rfl, rfl, rfl⟩ | rfl
        apply wpS_read (i := 8) rfl rfl ⟨_, hS⟩ rfl -- Op.assign t38
        · intro w' hT'
          simp only [List.getElem_toArray, List.getElem_cons_zero, List.getElem_cons_succ]
          go_wp2_with fail
          first | exact ⟨rfl, rfl, rfl⟩ | rfl
        refine wpS_end ?_
        intro wz hT
        try dsimp only
        clear heq
        have ce := hT.oldCell e1 (fun h => h)
        go_wp2_with fail
        go_ret
        exact ⟨rfl, F', v, vs, F2', hst.below hT.bel, hsub2, hu2.trans (Upd.of_below hT.bel F) (fun _ _ h => h)⟩
end Go.Proofs.YtinpilfnnmkpoaaDoor
