/- The store's Put. -/
import Derived.Test.YtinpilfnnmkpoaaDoorBlobJ
import Derived.Test.YtinpilfnnmkpoaaDoorCopy
namespace Go.Proofs.YtinpilfnnmkpoaaDoor
open Go.RowKit Go.Cour
/-- Bytes behind others' being laid on them. -/
def putB (xs : List Int) (f : Nat) (bs : List Int) : List Int := xs.take f ++ bs ++ xs.drop (f + bs.length)
theorem putB_length {xs bs : List Int} {f : Nat} (h : f ≤ xs.length) : (putB xs f bs).length = max xs.length (f + bs.length) := by simp [putB]; omega
theorem laid_putB {xs ys : List Int} {f : Nat} (hf : f ≤ xs.length) : laid xs f (min ys.length (xs.length - f)) ys ++ ys.drop (min ys.length (xs.length - f)) = putB xs f ys := by
  by_cases h : ys.length ≤ xs.length - f
  · rw [Nat.min_eq_left h]
    simp [laid, putB]
  · rw [Nat.min_eq_right (by omega)]
    have h1 : xs.drop (f + (xs.length - f)) = [] := List.drop_eq_nil_of_le (by omega)
    have h2 : xs.drop (f + ys.length) = [] := List.drop_eq_nil_of_le (by omega)
    simp [laid, putB, h1, h2]
/-- How many bytes a blob has behind a Put, or why not. -/
def putOf (id : List Int) (off : Int) (bs : List Int) (l : List Item) : Int × Option Nat := match l[posOf id l]? with
  | none => (0, some 13)
  | some x => if x.done = true then (0, some 16) else if off < 0 ∨ (x.b.length : Int) < off ∨ x.n - off < bs.length then (0, some 1) else (((putB x.b off.toNat bs).length : Int), none)
def putL (id : List Int) (off : Int) (bs : List Int) (l : List Item) : List Item := match l[posOf id l]? with
  | none => l
  | some x => l.set (posOf id l) (if (putOf id off bs l).2 = none then { x with age := 0, b := putB x.b off.toNat bs } else { x with age := 0 })
theorem putL_err {id bs : List Int} {off : Int} {l : List Item} (h : (putOf id off bs l).2 ≠ none) : putL id off bs l = touch id l := by
  unfold putL touch
  cases l[posOf id l]? with
  | none => rfl
  | some x => simp only [if_neg h]
theorem putOf_none {id bs : List Int} {off : Int} {l : List Item} (h : ¬ posOf id l < l.length) : putOf id off bs l = (0, some 13) := by
  unfold putOf; rw [List.getElem?_eq_none (by omega)]
theorem putOf_done {id bs : List Int} {off : Int} {l : List Item} {x : Item} (hx : l[posOf id l]? = some x) (hd : x.done = true) : putOf id off bs l = (0, some 16) := by
  unfold putOf; rw [hx]; simp only [if_pos hd]
theorem putOf_out {id bs : List Int} {off : Int} {l : List Item} {x : Item} (hx : l[posOf id l]? = some x) (hd : ¬ x.done = true) (hr : off < 0 ∨ (x.b.length : Int) < off ∨ x.n - off < bs.length) : putOf id off bs l = (0, some 1) := by
  unfold putOf; rw [hx]; simp only [if_neg hd, if_pos hr]
theorem putOf_ok {id bs : List Int} {off : Int} {l : List Item} {x : Item} (hx : l[posOf id l]? = some x) (hd : ¬ x.done = true) (hr : ¬ (off < 0 ∨ (x.b.length : Int) < off ∨ x.n - off < bs.length)) : putOf id off bs l = (((putB x.b off.toNat bs).length : Int), none) := by
  unfold putOf; rw [hx]; simp only [if_neg hd, if_neg hr]
theorem putL_ok {id bs : List Int} {off : Int} {l : List Item} {x : Item} (hx : l[posOf id l]? = some x) (hd : ¬ x.done = true) (hr : ¬ (off < 0 ∨ (x.b.length : Int) < off ∨ x.n - off < bs.length)) : putL id off bs l = l.set (posOf id l) { x with age := 0, b := putB x.b off.toNat bs } := by
  unfold putL; rw [hx, putOf_ok hx hd hr]; simp
theorem itemC_b (x : Item) (vb vb' : Value) (h : x.id.length = 32) (xs : List Int) : (itemC x vb).set 33 vb' = itemC { x with b := xs } vb' := by
  have hl : (ints .u8 x.id).length = 32 := by simp [h]
  simp only [itemC]
  rw [List.set_append_right _ _ (by omega), hl]
  rfl
set_option maxHeartbeats 1000000 in
set_option maxRecDepth 100000 in
theorem put_calls {w : World} {P : Nat → Addr} {B : Nat} {F F2 : Nat → Prop} {gs : Nat} {st : StoreD} {v : Value} {vs : List Value} (id : List Int) (off : Int) (bs : List Int) (Ab : Option Addr) (q cb : Nat) (hE : ErrsAt w P B) (hBw : B ≤ w.heap.size) (hF : ∀ k, F k → B ≤ k) (h : StoreAt w F gs st v vs F2) (hG : Good st) (hid' : id.length = 32)
    (ho : -9223372036854775808 ≤ off ∧ off < 9223372036854775808) (hq : bs.length = q) (hq2 : q ≤ 1000000) (hqc : q ≤ cb) (hAb : Ab = none → cb = 0) (hrd : Rd w Ab .u8 bs) (hsep : ∀ a, Ab = some a → bs ≠ [] → ¬ F a.block) :
    Calls Tryd.prog 19 #[.pointer (some ⟨gs, 0, none⟩), .agg (ints .u8 id).toArray, .int .i64 off, .slice Ab q cb] w fun e w' => e = .returned (.tuple #[.int .i64 (putOf id off bs st.l).1, erV P (putOf id off bs st.l).2]) ∧ Becomes w F gs w' { st with l := putL id off bs st.l } := by
  have HI := hid hid'
  have H := hid h
  have HLEN := hid (show st.l.length ≤ 1000000 by have := hG.len; omega)
  have HRD := hid hrd
  have HSEP := hid hsep
  have HAB := hid hAb
  clear hid' hrd hsep hAb
  by_cases hk : posOf id st.l < st.l.length
  · obtain ⟨x, g, vb, hx, hu, hxl, hb, ho', hFg, hFb, hgs, hvg, hvb, hback⟩ := h.focus _ hk
    have hxn := hG.n x (List.mem_of_getElem? hx)
    have hxb := hG.b x (List.mem_of_getElem? hx)
    have hr := hid (show vs.getD (posOf id st.l) (.pointer none) = .pointer (some ⟨g, 0, none⟩) by rw [List.getD_eq_getElem?_getD, hu]; rfl)
    have HT := hid (touch_some hx)
    have HX := hid hx
    have HK := hid hk
    have HU := hid hu
    have HG := hid hG
    clear hback ho' hgs hvg hvb hFg hFb hk h hb hx hu hG
    obtain ⟨xb, hbs⟩ : ∃ xb, Hd (x.b = xb) := ⟨_, ⟨rfl⟩⟩
    obtain ⟨m, hm⟩ : ∃ m, Hd (xb.length = m) := ⟨_, ⟨rfl⟩⟩
    obtain ⟨xn, hxnn⟩ : ∃ xn, Hd (x.n = xn) := ⟨_, ⟨rfl⟩⟩
    rw [hbs.out, hm.out, hxnn.out] at hxb
    rw [hxnn.out] at hxn
    by_cases hd : x.done = true
    · have hgo := hid (putOf_done (off := off) (bs := bs) HX.out hd)
      have hpl := hid (putL_err (id := id) (off := off) (bs := bs) (l := st.l) (by rw [hgo.out]; simp))
      rw [hgo.out, hpl.out]
      go_enter Tryd.func19, Tryd.ntmps19
      go_wp2_with (first
        | (refine box_blk rfl 30 _ rfl _ rfl (ints .u8 id) rfl ?_; intro gb w1 hgb hbb hB1 hs1
           clear hgb hs1)
        | (refine load_blk rfl 30 _ rfl gb rfl 30 _ hbb 32 5 arrHash (by simp [ints, HI.out]) infoHash ?_)
        | (go_at_call 27; refine (named_calls id (H.out.below hB1) HI.out HLEN.out).mono ?_
           rintro e w2 ⟨he, ⟨F', F2', hst, hsub⟩, hup⟩
           rw [hr.out] at he
           subst he
           have hu2 := (Upd.of_below hB1 F).trans hup (fun j _ hj => hj)
           have hsub2 : Sub F' F w := fun k hk => (hsub k hk).imp (fun h => h) (fun h => by have := hB1.size; omega)
           have e16 := (hE.below (hu2.below hBw hF)).errs.cell 16 (by omega)
           have e1 := (hE.below (hu2.below hBw hF)).errs.cell 1 (by omega)
           simp only [globs, List.getD_cons_zero, List.getD_cons_succ] at e16 e1
           obtain ⟨x2, g2, vb2, hx2, hv2, hxl2, hb2, ho2, hFg2, hFb2, hgs2, hvg2, hvb22, hbk2⟩ := hst.focus (posOf id st.l) (by rw [HT.out]; simpa using HK.out)
           rw [HU.out] at hv2
           injection hv2 with hv2; injection hv2 with hv2; injection hv2 with hv2; injection hv2 with hv2
           subst hv2
           have hx3 : x2 = { x with age := 0 } := by
             rw [HT.out, List.getElem?_set_self HK.out] at hx2
             injection hx2 with hx2; exact hx2.symm
           obtain ⟨A2, c2, hvb2, hc2, hA2, hr2⟩ := ho2.parts
           have hb3 : x2.b = xb := by rw [hx3]; exact hbs.out
           rw [hb3] at hvb2 hc2 hr2
           rw [hm.out] at hvb2 hc2
           have c33 : w2.cell? ⟨g, 33, none⟩ = some (.slice A2 m c2) := by rw [hb2.cell]; have := itemC_at x2 vb2 hxl2 1; rw [this]; simp [hvb2]
           have c34 : w2.cell? ⟨g, 34, none⟩ = some (.bool x.done) := by rw [hb2.cell]; have := itemC_at x2 vb2 hxl2 2; rw [this]; simp [hx3]
           have c32 : w2.cell? ⟨g, 32, none⟩ = some (.int .i64 xn) := by rw [hb2.cell]; have := itemC_at x2 vb2 hxl2 0; rw [this]; simp [hx3, hxnn.out]
           have HB2 := hid hb2
           have HO2 := hid ho2
           have HX2 := hid hx3
           have HB3 := hid hb3
           replace hvb2 := hid hvb2
           clear hb2 ho2 hx2 hx3 hb3 hbb hr2 hA2 hgs2 hvg2 hvb22)
        | fail)
      go_quiet (fail)
      go_wp2_with fail
      refine bodyPost_ret (results_tmp2 rfl _ _ rfl rfl) rfl ?_
      exact ⟨rfl, F', v, vs, F2', hst.below (below_drewN (Below.refl _ _) _), hsub2, hu2.drewN _⟩
    · have hd2 : x.done = false := by simpa using hd
      by_cases hr2 : off < 0 ∨ (m : Int) < off ∨ xn - off < q
      · have hgo := hid (putOf_out (off := off) (bs := bs) HX.out hd (by rw [hbs.out, hm.out, hxnn.out, hq]; exact hr2))
        have hpl := hid (putL_err (id := id) (off := off) (bs := bs) (l := st.l) (by rw [hgo.out]; simp))
        rw [hgo.out, hpl.out]
        have hcase : off < 0 ∨ (¬ off < 0 ∧ (m : Int) < off) ∨ (¬ off < 0 ∧ ¬ (m : Int) < off ∧ xn - off < q) := by omega
        clear hr2
        rcases hcase with h1 | ⟨h1, h2⟩ | ⟨h1, h2, h3⟩
        all_goals
          try have ha : IntKind.i64.wrap (xn - off) = xn - off := IntWalk.i64_in _ (by omega)
          go_enter Tryd.func19, Tryd.ntmps19
          go_wp2_with (first
            | (refine box_blk rfl 30 _ rfl _ rfl (ints .u8 id) rfl ?_; intro gb w1 hgb hbb hB1 hs1
               clear hgb hs1)
            | (refine load_blk rfl 30 _ rfl gb rfl 30 _ hbb 32 5 arrHash (by simp [ints, HI.out]) infoHash ?_)
            | (go_at_call 27; refine (named_calls id (H.out.below hB1) HI.out HLEN.out).mono ?_
               rintro e w2 ⟨he, ⟨F', F2', hst, hsub⟩, hup⟩
               rw [hr.out] at he
               subst he
               have hu2 := (Upd.of_below hB1 F).trans hup (fun j _ hj => hj)
               have hsub2 : Sub F' F w := fun k hk => (hsub k hk).imp (fun h => h) (fun h => by have := hB1.size; omega)
               have e16 := (hE.below (hu2.below hBw hF)).errs.cell 16 (by omega)
               have e1 := (hE.below (hu2.below hBw hF)).errs.cell 1 (by omega)
               simp only [globs, List.getD_cons_zero, List.getD_cons_succ] at e16 e1
               obtain ⟨x2, g2, vb2, hx2, hv2, hxl2, hb2, ho2, hFg2, hFb2, hgs2, hvg2, hvb22, hbk2⟩ := hst.focus (posOf id st.l) (by rw [HT.out]; simpa using HK.out)
               rw [HU.out] at hv2
               injection hv2 with hv2; injection hv2 with hv2; injection hv2 with hv2; injection hv2 with hv2
               subst hv2
               have hx3 : x2 = { x with age := 0 } := by
                 rw [HT.out, List.getElem?_set_self HK.out] at hx2
                 injection hx2 with hx2; exact hx2.symm
               obtain ⟨A2, c2, hvb2, hc2, hA2, hr2⟩ := ho2.parts
               have hb3 : x2.b = xb := by rw [hx3]; exact hbs.out
               rw [hb3] at hvb2 hc2 hr2
               rw [hm.out] at hvb2 hc2
               have c33 : w2.cell? ⟨g, 33, none⟩ = some (.slice A2 m c2) := by rw [hb2.cell]; have := itemC_at x2 vb2 hxl2 1; rw [this]; simp [hvb2]
               have c34 : w2.cell? ⟨g, 34, none⟩ = some (.bool x.done) := by rw [hb2.cell]; have := itemC_at x2 vb2 hxl2 2; rw [this]; simp [hx3]
               have c32 : w2.cell? ⟨g, 32, none⟩ = some (.int .i64 xn) := by rw [hb2.cell]; have := itemC_at x2 vb2 hxl2 0; rw [this]; simp [hx3, hxnn.out]
               have HB2 := hid hb2
               have HO2 := hid ho2
               have HX2 := hid hx3
               have HB3 := hid hb3
               replace hvb2 := hid hvb2
               clear hb2 ho2 hx2 hx3 hb3 hbb hr2 hA2 hgs2 hvg2 hvb22)
            | fail)
          go_quiet (fail)
          go_wp2_with fail
          refine bodyPost_ret (results_tmp2 rfl _ _ rfl rfl) rfl ?_
          exact ⟨rfl, F', v, vs, F2', hst.below (below_drewN (Below.refl _ _) _), hsub2, hu2.drewN _⟩
      · have hr3 : ¬ (off < 0 ∨ (x.b.length : Int) < off ∨ x.n - off < bs.length) := by rw [hbs.out, hm.out, hxnn.out, hq]; exact hr2
        have hgo := hid (putOf_ok (off := off) (bs := bs) HX.out hd hr3)
        have hpl := hid (putL_ok (id := id) (off := off) (bs := bs) (l := st.l) HX.out hd hr3)
        rw [hgo.out, hpl.out]
        clear hr3
        obtain ⟨f, hf⟩ : ∃ f : Nat, off = (f : Int) := ⟨off.toNat, by omega⟩
        subst hf
        rw [Int.toNat_natCast]
        have h1 : ¬ (f : Int) < 0 := by omega
        have h2 : ¬ (m : Int) < f := by omega
        have h3 : ¬ xn - f < q := by omega
        have ha : IntKind.i64.wrap (xn - f) = xn - f := IntWalk.i64_in _ (by omega)
        clear hr2 ho
        obtain ⟨n, hn⟩ : ∃ n, Hd (n = min q (m - f)) := ⟨_, ⟨rfl⟩⟩
        have hnq : n ≤ q := by rw [hn.out]; exact Nat.min_le_left _ _
        have hlp := hid (laid_putB (xs := xb) (ys := bs) (f := f) (by rw [hm.out]; omega))
        rw [hq, hm.out, ← hn.out] at hlp
        obtain ⟨A3, hA3⟩ : ∃ A3, Hd (cutA Ab cb n = A3) := ⟨_, ⟨rfl⟩⟩
        go_enter Tryd.func19, Tryd.ntmps19
        go_wp2_with (first
          | (refine box_blk rfl 30 _ rfl _ rfl (ints .u8 id) rfl ?_; intro gb w1 hgb hbb hB1 hs1
             clear hgb hs1)
          | (refine load_blk rfl 30 _ rfl gb rfl 30 _ hbb 32 5 arrHash (by simp [ints, HI.out]) infoHash ?_)
          | fail)
        refine (named_calls id (H.out.below hB1) HI.out HLEN.out).mono ?_
        rintro e w2 ⟨he, ⟨F', F2', hst, hsub⟩, hup⟩
        rw [hr.out] at he
        subst he
        have hu2 := (Upd.of_below hB1 F).trans hup (fun j _ hj => hj)
        have hsub2 : Sub F' F w := fun k hk => (hsub k hk).imp (fun h => h) (fun h => by have := hB1.size; omega)
        have e16 := (hE.below (hu2.below hBw hF)).errs.cell 16 (by omega)
        have e1 := (hE.below (hu2.below hBw hF)).errs.cell 1 (by omega)
        simp only [globs, List.getD_cons_zero, List.getD_cons_succ] at e16 e1
        obtain ⟨x2, g2, vb2, hx2, hv2, hxl2, hb2, ho2, hFg2, hFb2, hgs2, hvg2, hvb22, hbk2⟩ := hst.focus (posOf id st.l) (by rw [HT.out]; simpa using HK.out)
        rw [HU.out] at hv2
        injection hv2 with hv2; injection hv2 with hv2; injection hv2 with hv2; injection hv2 with hv2
        subst hv2
        have hx3 : x2 = { x with age := 0 } := by
          rw [HT.out, List.getElem?_set_self HK.out] at hx2
          injection hx2 with hx2; exact hx2.symm
        obtain ⟨A2, c2, hvb2, hc2, hA2, hr2⟩ := ho2.parts
        have hb3 : x2.b = xb := by rw [hx3]; exact hbs.out
        rw [hb3] at hvb2 hc2 hr2
        rw [hm.out] at hvb2 hc2
        have c33 : w2.cell? ⟨g, 33, none⟩ = some (.slice A2 m c2) := by rw [hb2.cell]; have := itemC_at x2 vb2 hxl2 1; rw [this]; simp [hvb2]
        have c34 : w2.cell? ⟨g, 34, none⟩ = some (.bool x.done) := by rw [hb2.cell]; have := itemC_at x2 vb2 hxl2 2; rw [this]; simp [hx3]
        have c32 : w2.cell? ⟨g, 32, none⟩ = some (.int .i64 xn) := by rw [hb2.cell]; have := itemC_at x2 vb2 hxl2 0; rw [this]; simp [hx3, hxnn.out]
        have HB2 := hid hb2
        have HO2 := hid ho2
        have HX2 := hid hx3
        have HB3 := hid hb3
        replace hvb2 := hid hvb2
        clear hb2 ho2 hx2 hx3 hb3 hbb hr2 hA2 hgs2 hvg2 hvb22
        have HH := hid hbk2
        have hrd2 := HRD.out.upd hu2 HSEP.out
        have hsz2 : w.heap.size ≤ w2.heap.size := hu2.size
        have hsp2 : ∀ a, Ab = some a → bs ≠ [] → ¬ vb2.ownBlock = some a.block := fun a ha hne hv => by
          rcases hsub2 _ (hFb2 _ hv) with h4 | h4
          · exact HSEP.out a ha hne h4
          · rcases HRD.out with h5 | ⟨g5, o5, h5, h6⟩
            · exact hne h5
            · rw [ha] at h5; injection h5 with h5; subst h5
              have := lt_of_cell (h6 0 (by cases bs with | nil => exact absurd rfl hne | cons => simp))
              simp only at h4; omega
        have HSP2 := hid hsp2
        have HFB := hid hFb2
        clear hbk2 hsp2 hFb2
        go_wp2_with (first
          | (refine slice_cut rfl (.tmp 52) (.tmp 53) 41 rfl 5 undBytes sizeU8B .i64 A2 m c2 f rfl rfl (by omega) ?_)
          | (refine copy_own rfl (.tmp 54) (.tmp 55) 41 41 rfl 5 undBytes sizeU8B .u8 vb2 xb (HB3.out ▸ HO2.out) A2 m c2 hvb2.out hm.out f (by omega) (cutA A2 c2 f) (c2 - f) rfl (fun hlt => cutA_some hlt hc2) Ab q cb bs rfl hq hrd2 n hn.out ?_
             intro w3 hown3 hupd3)
          | fail)
        have hne3 : vb2.ownBlock ≠ some g := blk_own_ne (HB2.out) HO2.out (by decide)
        have hb4 := HB2.out.upd hupd3 hne3
        have c33' : w3.cell? ⟨g, 33, none⟩ = some (.slice A2 m c2) := by rw [hb4.cell]; have := itemC_at x2 vb2 hxl2 1; rw [this]; simp [hvb2.out]
        have hrd3 := hid (hrd2.upd hupd3 (fun a ha hne hv => HSP2.out a ha hne hv))
        have hrd4 := hid (rd_from (A' := A3) (f := n) hrd3.out (fun hlt => by rw [← hA3.out]; exact cutA_some (m := q) (by omega) hqc))
        have hA4 := hid (show A3 = none → cb - n = 0 from fun hh => cutA_none HAB.out (hA3.out.trans hh))
        have hlX := laid_length (xs := xb) (ys := bs) (f := f) (n := n) (by have := hn.out; have := hm.out; omega) (by omega)
        have HLX := hid hlX
        have HB4 := hid hb4
        have HO3 := hid hown3
        have HU3 := hid hupd3
        clear c33 c34 c32 hlX hb4 hown3 hupd3 hrd2
        have hT := (show w3.drew.cell? ⟨g, 33, none⟩ = some (.slice A2 m c2) from c33')
        refine wp_region_T (T := fun w' => w'.cell? ⟨g, 33, none⟩ = some (.slice A2 m c2)) (by kernel_rfl) (by kernel_rfl) hT ?_
        show wpT _ _ _ _ [0, 1, 2, 3, 4, 5, 6, 7, 8, 9, 10, 11] _ _
        apply wpT_read (i := 0) rfl hT rfl -- Op.move t10
        · intro w' hT'
          simp only [List.getElem_toArray, List.getElem_cons_zero, List.getElem_cons_succ]
          go_wp2_with fail
          first | exact ⟨rfl, rfl, rfl⟩ | rfl
        apply wpT_read (i := 1) rfl hT rfl -- Op.move t10
        · intro w' hT'
          simp only [List.getElem_toArray, List.getElem_cons_zero, List.getElem_cons_succ]
          go_wp2_with fail
          first | exact ⟨rfl, rfl, rfl⟩ | rfl
        apply wpT_read (i := 2) rfl hT rfl -- Op.nilCheck t58
        · intro w' hT'
          simp only [List.getElem_toArray, List.getElem_cons_zero, List.getElem_cons_succ]
          go_wp2_with fail
          first | exact ⟨rfl, rfl, rfl⟩ | rfl
        apply wpT_read (i := 3) rfl hT rfl -- Op.fieldAddr 62 t59 2
        · intro w' hT'
          simp only [List.getElem_toArray, List.getElem_cons_zero, List.getElem_cons_succ]
          go_wp2_with fail
          first | exact ⟨rfl, rfl, rfl⟩ | rfl
        apply wpT_read (i := 4) rfl hT rfl -- Op.load 41 t60
        · intro w' hT'
          simp only [List.getElem_toArray, List.getElem_cons_zero, List.getElem_cons_succ]
          have c33'' := hT'
          go_wp2_with (first
            | (refine slice_cut rfl (.tmp 62) (.tmp 63) 41 rfl 5 undBytes sizeU8B .i64 Ab q cb n rfl rfl hnq ?_; rw [hA3.out])
            | fail)
          first | exact ⟨rfl, rfl, rfl⟩ | rfl
        apply wpT_read (i := 5) rfl hT rfl -- Op.move t3
        · intro w' hT'
          simp only [List.getElem_toArray, List.getElem_cons_zero, List.getElem_cons_succ]
          go_wp2_with fail
          first | exact ⟨rfl, rfl, rfl⟩ | rfl
        apply wpT_read (i := 6) rfl hT rfl -- Op.move t11
        · intro w' hT'
          simp only [List.getElem_toArray, List.getElem_cons_zero, List.getElem_cons_succ]
          go_wp2_with fail
          first | exact ⟨rfl, rfl, rfl⟩ | rfl
        apply wpT_read (i := 7) rfl hT rfl -- Op.slice 41 t62 (some t63) none none
        · intro w' hT'
          simp only [List.getElem_toArray, List.getElem_cons_zero, List.getElem_cons_succ]
          go_wp2_with (first
            | (refine slice_cut rfl (.tmp 62) (.tmp 63) 41 rfl 5 undBytes sizeU8B .i64 Ab q cb n rfl rfl hnq ?_; rw [hA3.out])
            | fail)
          first | exact ⟨rfl, rfl, rfl⟩ | rfl
        refine wpT_act (i := 8) rfl rfl ?_ -- Op.call { builtin append, args := #[t61, t64], argTypes := #[41, 41]
        simp only [List.getElem_toArray, List.getElem_cons_zero, List.getElem_cons_succ]
        go_wp2_with (first
          | (at_builtin; refine app_ints rfl (.tmp 61) (.tmp 64) 41 rfl 5 .u8 1 undBytes infoU8 (.slice A2 m c2) (laid xb f n bs) rfl (hvb2.out ▸ HO3.out.drew) A3 (q - n) (cb - n) (bs.drop n) rfl (by rw [List.length_drop, hq]) hA4.out hrd4.out (by rw [HLX.out, hm.out, List.length_drop, hq]; omega) (by rw [HLX.out, hm.out, List.length_drop, hq]; omega) ?_; intro v6 w6 hv6 hg6 hl6)
          | fail)
        rw [hlp.out] at hv6
        rw [← hvb2.out] at hg6 hl6
        have hs6 := HB4.out.drew.grown hg6 hne3.symm
        have hT := hg6.cell hT hne3.symm
        have c336 := hT
        have f336 := hs6.frozen 33
        obtain ⟨A6, c6, hv6e, _, _, _⟩ := hv6.parts
        obtain ⟨n6, hn6⟩ : ∃ n6, Hd ((putB xb f bs).length = n6) := ⟨_, ⟨rfl⟩⟩
        rw [hn6.out] at hv6e
        subst hv6e
        first | refine ⟨rfl, rfl, hT, ?_⟩ | (show _ ∧ _; refine ⟨hT, ?_⟩) | skip
        apply wpT_read (i := 9) rfl hT rfl -- Op.nilCheck t57
        · intro w' hT'
          simp only [List.getElem_toArray, List.getElem_cons_zero, List.getElem_cons_succ]
          go_wp2_with fail
          first | exact ⟨rfl, rfl, rfl⟩ | rfl
        apply wpT_read (i := 10) rfl hT rfl -- Op.fieldAddr 62 t66 2
        · intro w' hT'
          simp only [List.getElem_toArray, List.getElem_cons_zero, List.getElem_cons_succ]
          go_wp2_with fail
          first | exact ⟨rfl, rfl, rfl⟩ | rfl
        refine wpT_tot (fun w' => True) (i := 11) rfl rfl (by kernel_rfl) ?_ -- Op.store 41 t67 t65
        simp only [List.getElem_toArray, List.getElem_cons_zero, List.getElem_cons_succ]
        go_wp2_with fail
        have hT : True := trivial
        obtain ⟨w7, hw7⟩ : ∃ w7, Hd (w7 = w6.setCell ⟨g, 33, none⟩ (.slice A6 n6 c6)) := ⟨_, ⟨rfl⟩⟩
        try rw [← hw7.out]
        have hb7 : Blk w7 g 62 (itemC { x2 with b := putB xb f bs } (.slice A6 n6 c6)) := by rw [← itemC_b x2 vb2 _ hxl2, hw7.out]; exact hs6.set 33 _
        have hv7 : Own w7 0 5 .u8 (.slice A6 n6 c6) (putB xb f bs) := by rw [hw7.out]; exact hv6.setOther (by simp; exact fun he => hv6.ne_blk hs6 (by decide) he.symm) _
        have c337 : w7.cell? ⟨g, 33, none⟩ = some (.slice A6 n6 c6) := by rw [hb7.cell]; exact itemC_at _ _ hxl2 1
        first | refine ⟨rfl, rfl, hT, ?_⟩ | (show _ ∧ _; refine ⟨hT, ?_⟩) | skip
        refine wpT_end ?_
        try dsimp only

        go_wp2_with fail
        refine bodyPost_ret (results_tmp2 rfl _ _ rfl rfl) rfl ?_
        have hlen6 : n6 = (putB x.b f bs).length := by rw [← hn6.out, hbs.out]
        refine ⟨by rw [hlen6]; rfl, ?_⟩
        obtain ⟨F9, F29, hst9, hsub9⟩ := HH.out w7 { x2 with b := putB xb f bs } (.slice A6 n6 c6) hb7 hxl2 hv7 (fun k hk => by
          rcases hl6 with h4 | h4
          · rw [h4] at hk; exact .inl hk
          · rw [h4] at hk; injection hk with hk; have := HU3.out.size; simp only [World.drew] at hk; exact .inr (by omega)) (fun k hk hkg hkb => by
          have hkl := hst.lt k hk
          have hkl3 : k < w3.heap.size := Nat.lt_of_lt_of_le hkl HU3.out.size
          rw [hw7.out, Below.heap_setCell _ _ _ _ hkg]
          exact (hg6.block k hkl3 (fun he => hkb he.symm)).trans (HU3.out.block k hkl (fun he => hkb he)))
        have hfin : ((touch id st.l).set (posOf id st.l) { x2 with b := putB xb f bs }) = st.l.set (posOf id st.l) { x with age := 0, b := putB x.b f bs } := by
          rw [HT.out, List.set_set, HX2.out, hbs.out]
        refine ⟨F9, v, vs, F29, hfin ▸ hst9, hsub2.trans hsub9 hsz2, ?_⟩
        have hu67 : Upd (fun j => j = g) w6 w7 := by
          rw [hw7.out]; exact Upd.setCell w6 ⟨g, 33, none⟩ (.slice A6 n6 c6)
        have hu23 : Upd F' w2 w7 := ((HU3.out.drew.mono (G := F') (fun j _ hj => HFB.out j hj)).trans (w2 := w6) ((Upd.of_grown hg6).mono (G := F') (fun j _ hj => HFB.out j hj)) (fun j _ hj => hj)).trans hu67 (fun j _ he => by subst he; exact hFg2)
        exact hu2.trans hu23 (fun j hj hf => (hsub2 j hf).resolve_right (by omega))
  · have HT := hid (touch_none (id := id) (l := st.l) hk)
    have hsl := h.star.length
    have hr := hid (show vs.getD (posOf id st.l) (.pointer none) = .pointer none by rw [List.getD_eq_getElem?_getD, List.getElem?_eq_none (by omega)]; rfl)
    have hgo := hid (putOf_none (off := off) (bs := bs) hk)
    have hpl := hid (putL_err (id := id) (off := off) (bs := bs) (l := st.l) (by rw [hgo.out]; simp))
    rw [hgo.out, hpl.out]
    clear hk hsl h
    go_enter Tryd.func19, Tryd.ntmps19
    go_wp2_with (first
      | (refine box_blk rfl 30 _ rfl _ rfl (ints .u8 id) rfl ?_; intro gb w1 hgb hbb hB1 hs1
         clear hgb hs1)
      | (refine load_blk rfl 30 _ rfl gb rfl 30 _ hbb 32 5 arrHash (by simp [ints, HI.out]) infoHash ?_)
      | (go_at_call 27; refine (named_calls id (H.out.below hB1) HI.out HLEN.out).mono ?_
         rintro e w2 ⟨he, ⟨F', F2', hst, hsub⟩, hup⟩
         rw [hr.out] at he
         subst he
         have hu2 := (Upd.of_below hB1 F).trans hup (fun j _ hj => hj)
         have hsub2 : Sub F' F w := fun k hk => (hsub k hk).imp (fun h => h) (fun h => by have := hB1.size; omega)
         have e13 := (hE.below (hu2.below hBw hF)).errs.cell 13 (by omega)
         simp only [globs, List.getD_cons_zero, List.getD_cons_succ] at e13
         clear hbb)
      | fail)
    go_quiet (fail)
    go_wp2_with fail
    refine bodyPost_ret (results_tmp2 rfl _ _ rfl rfl) rfl ?_
    exact ⟨rfl, F', v, vs, F2', hst.below (below_drewN (Below.refl _ _) _), hsub2, hu2.drewN _⟩
end Go.Proofs.YtinpilfnnmkpoaaDoor
