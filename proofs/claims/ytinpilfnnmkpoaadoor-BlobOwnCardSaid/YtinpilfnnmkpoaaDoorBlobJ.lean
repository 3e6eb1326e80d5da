/- The store's Get. -/
import Derived.Test.YtinpilfnnmkpoaaDoorBlobF
import Derived.Test.YtinpilfnnmkpoaaDoorFile
namespace Go.Proofs.YtinpilfnnmkpoaaDoor
open Go.RowKit Go.Cour
/-- Two results, each in a slot. -/
theorem results_tmp2 {P : Program} {fn : Func} {p q : Tmp} (h : fn.results = #[.tmp p, .tmp q]) (tmps : Array Value) (w : World) {u v : Value} (hp : tmps.getD p undef = u) (hq : tmps.getD q undef = v) :
    (results fn tmps).run P w = .ok (.tuple #[u, v]) w := by
  have hp' : tmps[p]?.getD undef = u := by simpa using hp
  have hq' : tmps[q]?.getD undef = v := by simpa using hq
  simp [results, h, hp', hq']
theorem rd_slice {w : World} {A : Option Addr} {k : IntKind} {xs : List Int} (h : Rd w A k xs) (f : Nat) : Rd w (A.map (·.add f)) k (xs.drop f) := by
  rcases h with h | ⟨g, o, rfl, h⟩
  · exact .inl (by rw [h]; simp)
  · refine .inr ⟨g, o + f, by rw [Option.map_some, add_lit], fun i hi => ?_⟩
    rw [rd_drop, Nat.add_assoc]
    exact h _ (by rw [List.length_drop] at hi; omega)
def getOf (id : List Int) (off n : Int) (l : List Item) : List Int × Option Nat := match l[posOf id l]? with
  | none => ([], some 13)
  | some x => if x.done = false then ([], some 16) else if n < 0 ∨ 200 < n ∨ off < 0 ∨ (x.b.length : Int) < off ∨ (x.b.length : Int) - off < n then ([], some 1) else ((x.b.drop off.toNat).take n.toNat, none)
/-- The bytes of an answer: one's own, or none. -/
def GotV (w : World) (B : Nat) (r : List Int × Option Nat) (v : Value) : Prop := Own w B 5 .u8 v r.1
set_option maxHeartbeats 1000000 in
set_option maxRecDepth 100000 in
theorem get2_calls {w : World} {P : Nat → Addr} {B : Nat} {F F2 : Nat → Prop} {gs : Nat} {st : StoreD} {v : Value} {vs : List Value} (id : List Int) (off n : Int) (hE : ErrsAt w P B) (hBw : B ≤ w.heap.size) (hF : ∀ k, F k → B ≤ k) (h : StoreAt w F gs st v vs F2) (hid' : id.length = 32) (hlen : st.l.length ≤ 1000000) (hbl : ∀ x ∈ st.l, x.b.length ≤ 1000000)
    (ho : -9223372036854775808 ≤ off ∧ off < 9223372036854775808) (hn : -9223372036854775808 ≤ n ∧ n < 9223372036854775808) :
    Calls Tryd.prog 20 #[.pointer (some ⟨gs, 0, none⟩), .agg (ints .u8 id).toArray, .int .i64 off, .int .i64 n] w fun e w' => ∃ u F' v' vs' F2', e = .returned (.tuple #[u, erV P (getOf id off n st.l).2]) ∧ Own w' w.heap.size 5 .u8 u (getOf id off n st.l).1 ∧ StoreAt w' F' gs { st with l := touch id st.l } v' vs' F2' ∧ Sub F' F w ∧ Upd F w w' ∧ ∀ k, u.ownBlock = some k → ¬ F' k := by
  have HI := hid hid'
  have H := hid h
  have HLEN := hid hlen
  clear hid' hlen
  by_cases hk : posOf id st.l < st.l.length
  · obtain ⟨x, g, vb, hx, hu, hxl, hb, ho', hFg, hFb, hgs, hvg, hvb, hback⟩ := h.focus _ hk
    have hbl1 := hbl x (List.mem_of_getElem? hx)
    have hr := hid (show vs.getD (posOf id st.l) (.pointer none) = .pointer (some ⟨g, 0, none⟩) by rw [List.getD_eq_getElem?_getD, hu]; rfl)
    have hgo : Hd (getOf id off n st.l = if x.done = false then ([], some 16) else if n < 0 ∨ 200 < n ∨ off < 0 ∨ (x.b.length : Int) < off ∨ (x.b.length : Int) - off < n then ([], some 1) else ((x.b.drop off.toNat).take n.toNat, none)) := hid (by unfold getOf; rw [hx])
    rw [hgo.out]
    have HT := hid (touch_some hx)
    have HK := hid hk
    have HU := hid hu
    have HB := hid hb
    have HO := hid ho'
    clear hback ho' hgs hvg hvb hFg hFb hk h hb hgo hx hu
    obtain ⟨bs, hbs⟩ : ∃ bs, Hd (x.b = bs) := ⟨_, ⟨rfl⟩⟩
    obtain ⟨m, hm⟩ : ∃ m, Hd (bs.length = m) := ⟨_, ⟨rfl⟩⟩
    rw [hbs.out, hm.out] at hbl1 ⊢
    by_cases hd : x.done = false
    · rw [if_pos hd]
      go_enter Tryd.func20, Tryd.ntmps20
      go_wp2_with (first
        | (refine box_blk rfl 30 _ rfl _ rfl (ints .u8 id) rfl ?_; intro gb w1 hgb hbb hB1 hs1
           clear hgb hs1)
        | (refine load_blk rfl 30 _ rfl gb rfl 30 _ hbb 32 5 arrHash (by simp [ints, HI.out]) infoHash ?_)
        | (go_at_call 27; refine (named_calls id (H.out.below hB1) HI.out HLEN.out).mono ?_
           rintro e w2 ⟨he, ⟨F', F2', hst, hsub⟩, hup⟩
           rw [hr.out] at he
           subst he
           have hu2 := (Upd.of_below hB1 F).trans hup (fun j _ hj => hj)
           have hsub2 : Sub F' F w := fun k hk => (hsub k hk).imp (fun h => h) (fun h => by have := hB1.size; omega)
           have e16 := (hE.below (hu2.below hBw hF)).errs.cell 16 (by omega)
           have e1 := (hE.below (hu2.below hBw hF)).errs.cell 1 (by omega)
           simp only [globs, List.getD_cons_zero, List.getD_cons_succ] at e16 e1
           obtain ⟨x2, g2, vb2, hx2, hv2, hxl2, hb2, ho2, _⟩ := hst.focus (posOf id st.l) (by rw [HT.out]; simpa using HK.out)
           rw [HU.out] at hv2
           injection hv2 with hv2; injection hv2 with hv2; injection hv2 with hv2; injection hv2 with hv2
           subst hv2
           have hx3 : x2 = { x with age := 0 } := by
             rw [HT.out, List.getElem?_set_self HK.out] at hx2
             injection hx2 with hx2; exact hx2.symm
           obtain ⟨A2, c2, hvb2, hc2, hA2, hr2⟩ := ho2.parts
           have hb3 : x2.b = bs := by rw [hx3]; exact hbs.out
           rw [hb3] at hvb2 hc2 hr2
           rw [hm.out] at hvb2 hc2
           have c33 : w2.cell? ⟨g, 33, none⟩ = some (.slice A2 m c2) := by rw [hb2.cell]; have := itemC_at x2 vb2 hxl2 1; rw [this]; simp [hvb2]
           have c34 : w2.cell? ⟨g, 34, none⟩ = some (.bool x.done) := by rw [hb2.cell]; have := itemC_at x2 vb2 hxl2 2; rw [this]; simp [hx3]
           have HR2 := hid hr2
           have HA2 := hid hA2
           clear hb2 ho2 hx2 hx3 hb3 hbb hr2 hA2 hvb2)
        | fail)
      go_quiet (fail)
      go_wp2_with fail
      refine bodyPost_ret (results_tmp2 rfl _ _ rfl rfl) rfl ?_
      exact ⟨_, F', v, vs, F2', rfl, Own.nil _ _ _ _, hst.below (below_drewN (Below.refl _ _) _), hsub2, hu2.drewN _, fun k hk => by simp [Value.ownBlock] at hk⟩
    · have hd2 : x.done = true := by simpa using hd
      rw [if_neg hd]
      by_cases hr2 : n < 0 ∨ 200 < n ∨ off < 0 ∨ (m : Int) < off ∨ (m : Int) - off < n
      · rw [if_pos hr2]
        have HR := hid hr2
        have hcase : n < 0 ∨ (¬ n < 0 ∧ 200 < n) ∨ (¬ n < 0 ∧ ¬ 200 < n ∧ off < 0) ∨ (¬ n < 0 ∧ ¬ 200 < n ∧ ¬ off < 0 ∧ (m : Int) < off) ∨ (¬ n < 0 ∧ ¬ 200 < n ∧ ¬ off < 0 ∧ ¬ (m : Int) < off ∧ (m : Int) - off < n) := by omega
        clear hr2
        rcases hcase with h1 | ⟨h1, h2⟩ | ⟨h1, h2, h3⟩ | ⟨h1, h2, h3, h4⟩ | ⟨h1, h2, h3, h4, h5⟩
        all_goals
          try have ha : IntKind.i64.wrap ((m : Int) - off) = (m : Int) - off := IntWalk.i64_in _ (by omega)
          go_enter Tryd.func20, Tryd.ntmps20
          go_wp2_with (first
            | (refine box_blk rfl 30 _ rfl _ rfl (ints .u8 id) rfl ?_; intro gb w1 hgb hbb hB1 hs1
               clear hgb hs1)
            | (refine load_blk rfl 30 _ rfl gb rfl 30 _ hbb 32 5 arrHash (by simp [ints, HI.out]) infoHash ?_)
            | (go_at_call 27; refine (named_calls id (H.out.below hB1) HI.out HLEN.out).mono ?_
               rintro e w2 ⟨he, ⟨F', F2', hst, hsub⟩, hup⟩
               rw [hr.out] at he
               subst he
               have hu2 := (Upd.of_below hB1 F).trans hup (fun j _ hj => hj)
               have hsub2 : Sub F' F w := fun k hk => (hsub k hk).imp (fun h => h) (fun h => by have := hB1.size; omega)
               have e16 := (hE.below (hu2.below hBw hF)).errs.cell 16 (by omega)
               have e1 := (hE.below (hu2.below hBw hF)).errs.cell 1 (by omega)
               simp only [globs, List.getD_cons_zero, List.getD_cons_succ] at e16 e1
               obtain ⟨x2, g2, vb2, hx2, hv2, hxl2, hb2, ho2, _⟩ := hst.focus (posOf id st.l) (by rw [HT.out]; simpa using HK.out)
               rw [HU.out] at hv2
               injection hv2 with hv2; injection hv2 with hv2; injection hv2 with hv2; injection hv2 with hv2
               subst hv2
               have hx3 : x2 = { x with age := 0 } := by
                 rw [HT.out, List.getElem?_set_self HK.out] at hx2
                 injection hx2 with hx2; exact hx2.symm
               obtain ⟨A2, c2, hvb2, hc2, hA2, hr2⟩ := ho2.parts
               have hb3 : x2.b = bs := by rw [hx3]; exact hbs.out
               rw [hb3] at hvb2 hc2 hr2
               rw [hm.out] at hvb2 hc2
               have c33 : w2.cell? ⟨g, 33, none⟩ = some (.slice A2 m c2) := by rw [hb2.cell]; have := itemC_at x2 vb2 hxl2 1; rw [this]; simp [hvb2]
               have c34 : w2.cell? ⟨g, 34, none⟩ = some (.bool x.done) := by rw [hb2.cell]; have := itemC_at x2 vb2 hxl2 2; rw [this]; simp [hx3]
               have HR2 := hid hr2
               have HA2 := hid hA2
               clear hb2 ho2 hx2 hx3 hb3 hbb hr2 hA2 hvb2)
            | fail)
          go_quiet (fail)
          go_wp2_with fail
          refine bodyPost_ret (results_tmp2 rfl _ _ rfl rfl) rfl ?_
          exact ⟨_, F', v, vs, F2', rfl, Own.nil _ _ _ _, hst.below (below_drewN (Below.refl _ _) _), hsub2, hu2.drewN _, fun k hk => by simp [Value.ownBlock] at hk⟩
      · rw [if_neg hr2]
        obtain ⟨f, hf⟩ : ∃ f : Nat, off = (f : Int) := ⟨off.toNat, by omega⟩
        obtain ⟨q, hq⟩ : ∃ q : Nat, n = (q : Int) := ⟨n.toNat, by omega⟩
        subst hf hq
        have h1 : ¬ (q : Int) < 0 := by omega
        have h2 : ¬ 200 < (q : Int) := by omega
        have h3 : ¬ (f : Int) < 0 := by omega
        have h4 : ¬ (m : Int) < f := by omega
        have h5 : ¬ (m : Int) - f < q := by omega
        have ha : IntKind.i64.wrap ((m : Int) - f) = (m : Int) - f := IntWalk.i64_in _ (by omega)
        have ha2 : IntKind.i64.wrap ((f : Int) + q) = (f : Int) + q := IntWalk.i64_in _ (by omega)
        clear hr2 hn ho
        have hR : Hd ((bs.drop ((f : Int)).toNat).take ((q : Int)).toNat = (bs.drop f).take q) := hid rfl
        rw [hR.out]
        have hlq : Hd (q = ((bs.drop f).take q).length) := hid (by rw [List.length_take, List.length_drop, hm.out]; omega)
        go_enter Tryd.func20, Tryd.ntmps20
        go_wp2_with (first
          | (refine box_blk rfl 30 _ rfl _ rfl (ints .u8 id) rfl ?_; intro gb w1 hgb hbb hB1 hs1
             clear hgb hs1)
          | (refine load_blk rfl 30 _ rfl gb rfl 30 _ hbb 32 5 arrHash (by simp [ints, HI.out]) infoHash ?_)
          | fail)
        refine (named_calls id (H.out.below hB1) HI.out HLEN.out).mono ?_
        rintro e w2 ⟨he, ⟨F', F2', hst, hsub⟩, hup⟩
        rw [hr.out] at he
        subst he
        have hu2 := (Upd.of_below hB1 F).trans hup (fun j _ hj => hj)
        have hsub2 : Sub F' F w := fun k hk => (hsub k hk).imp (fun h => h) (fun h => by have := hB1.size; omega)
        have e16 := (hE.below (hu2.below hBw hF)).errs.cell 16 (by omega)
        have e1 := (hE.below (hu2.below hBw hF)).errs.cell 1 (by omega)
        simp only [globs, List.getD_cons_zero, List.getD_cons_succ] at e16 e1
        obtain ⟨x2, g2, vb2, hx2, hv2, hxl2, hb2, ho2, _⟩ := hst.focus (posOf id st.l) (by rw [HT.out]; simpa using HK.out)
        rw [HU.out] at hv2
        injection hv2 with hv2; injection hv2 with hv2; injection hv2 with hv2; injection hv2 with hv2
        subst hv2
        have hx3 : x2 = { x with age := 0 } := by
          rw [HT.out, List.getElem?_set_self HK.out] at hx2
          injection hx2 with hx2; exact hx2.symm
        obtain ⟨A2, c2, hvb2, hc2, hA2, hr2⟩ := ho2.parts
        have hb3 : x2.b = bs := by rw [hx3]; exact hbs.out
        rw [hb3] at hvb2 hc2 hr2
        rw [hm.out] at hvb2 hc2
        have c33 : w2.cell? ⟨g, 33, none⟩ = some (.slice A2 m c2) := by rw [hb2.cell]; have := itemC_at x2 vb2 hxl2 1; rw [this]; simp [hvb2]
        have c34 : w2.cell? ⟨g, 34, none⟩ = some (.bool x.done) := by rw [hb2.cell]; have := itemC_at x2 vb2 hxl2 2; rw [this]; simp [hx3]
        have HR2 := hid hr2
        have HA2 := hid hA2
        clear hb2 ho2 hx2 hx3 hb3 hbb hr2 hA2 hvb2
        have hB2 : w.heap.size ≤ w2.heap.size := hu2.size
        cases A2 with
        | none =>
          obtain rfl := HA2.out rfl
          obtain rfl : m = 0 := by omega
          obtain rfl : f = 0 := by omega
          obtain rfl : q = 0 := by omega
          go_wp2_with (first
            | (go_at_call 33; refine (clone_calls none 0 0 [] _ rfl (fun _ => rfl) (.inl rfl) (by simp)).mono ?_; rintro e w3 ⟨u3, rfl, ho3, hB3⟩)
            | fail)
          refine bodyPost_ret (results_tmp2 rfl _ _ rfl rfl) rfl ?_
          refine ⟨_, F', v, vs, F2', rfl, by simpa using ho3.lower hB2, hst.below hB3, hsub2, hu2.trans (Upd.of_below hB3 F) (fun j _ hj => hj), fun k hk hf => by have h1 := hst.lt k hf; have h2 := ho3.base_le k hk; omega⟩
        | some ad =>
          by_cases hcf : c2 = f
          · obtain rfl : q = 0 := by omega
            subst hcf
            go_wp2_with (first
              | (go_at_call 33; refine (clone_calls (some ad) 0 _ [] _ rfl (fun h => by cases h) (.inl rfl) (by simp)).mono ?_; rintro e w3 ⟨u3, rfl, ho3, hB3⟩)
              | fail)
            refine bodyPost_ret (results_tmp2 rfl _ _ rfl rfl) rfl ?_
            refine ⟨_, F', v, vs, F2', rfl, by simpa using ho3.lower hB2, hst.below hB3, hsub2, hu2.trans (Upd.of_below hB3 F) (fun j _ hj => hj), fun k hk hf => by have h1 := hst.lt k hf; have h2 := ho3.base_le k hk; omega⟩
          · have hrs : Hd (Rd w2 (some (ad.add f)) .u8 ((bs.drop f).take q)) := hid (by
              have h1 := (rd_slice HR2.out f).take q
              simpa using h1)
            go_wp2_with (first
              | (go_at_call 33; refine (clone_calls (some (ad.add f)) q _ ((bs.drop f).take q) _ hlq.out (fun h => by cases h) hrs.out (by rw [← hlq.out]; omega)).mono ?_; rintro e w3 ⟨u3, rfl, ho3, hB3⟩)
              | fail)
            refine bodyPost_ret (results_tmp2 rfl _ _ rfl rfl) rfl ?_
            exact ⟨_, F', v, vs, F2', rfl, ho3.lower hB2, hst.below hB3, hsub2, hu2.trans (Upd.of_below hB3 F) (fun j _ hj => hj), fun k hk hf => by have h1 := hst.lt k hf; have h2 := ho3.base_le k hk; omega⟩
  · have HT := hid (touch_none (id := id) (l := st.l) hk)
    have hsl := h.star.length
    have hr := hid (show vs.getD (posOf id st.l) (.pointer none) = .pointer none by rw [List.getD_eq_getElem?_getD, List.getElem?_eq_none (by omega)]; rfl)
    have hgo : Hd (getOf id off n st.l = ([], some 13)) := hid (by unfold getOf; rw [List.getElem?_eq_none (by omega)])
    rw [hgo.out]
    clear hk hsl h
    go_enter Tryd.func20, Tryd.ntmps20
    go_wp2_with (first
      | (refine box_blk rfl 30 _ rfl _ rfl (ints .u8 id) rfl ?_; intro gb w1 hgb hbb hB1 hs1
         clear hgb hs1)
      | (refine load_blk rfl 30 _ rfl gb rfl 30 _ hbb 32 5 arrHash (by simp [ints, HI.out]) infoHash ?_)
      | (go_at_call 27; refine (named_calls id (H.out.below hB1) HI.out HLEN.out).mono ?_
         rintro e w2 ⟨he, ⟨F', F2', hst, hsub⟩, hup⟩
         rw [hr.out] at he
         subst he
         have hu2 := (Upd.of_below hB1 F).trans hup (fun j _ hj => hj)
         have hsub2 : Sub F' F w := fun k hk => (hsub k hk).imp (fun h => h) (fun h => by have := hB1.size; omega)
         have e13 := (hE.below (hu2.below hBw hF)).errs.cell 13 (by omega)
         simp only [globs, List.getD_cons_zero, List.getD_cons_succ] at e13
         clear hbb)
      | fail)
    go_quiet (fail)
    go_wp2_with fail
    refine bodyPost_ret (results_tmp2 rfl _ _ rfl rfl) rfl ?_
    exact ⟨_, F', v, vs, F2', rfl, Own.nil _ _ _ _, hst.below (below_drewN (Below.refl _ _) _), hsub2, hu2.drewN _, fun k hk => by simp [Value.ownBlock] at hk⟩
theorem get_calls {w : World} {P : Nat → Addr} {B : Nat} {F F2 : Nat → Prop} {gs : Nat} {st : StoreD} {v : Value} {vs : List Value} (id : List Int) (off n : Int) (hE : ErrsAt w P B) (hBw : B ≤ w.heap.size) (hF : ∀ k, F k → B ≤ k) (h : StoreAt w F gs st v vs F2) (hid' : id.length = 32) (hlen : st.l.length ≤ 1000000) (hbl : ∀ x ∈ st.l, x.b.length ≤ 1000000)
    (ho : -9223372036854775808 ≤ off ∧ off < 9223372036854775808) (hn : -9223372036854775808 ≤ n ∧ n < 9223372036854775808) :
    Calls Tryd.prog 20 #[.pointer (some ⟨gs, 0, none⟩), .agg (ints .u8 id).toArray, .int .i64 off, .int .i64 n] w fun e w' => (∃ u, e = .returned (.tuple #[u, erV P (getOf id off n st.l).2]) ∧ Own w' w.heap.size 5 .u8 u (getOf id off n st.l).1) ∧ Becomes w F gs w' { st with l := touch id st.l } :=
  (get2_calls id off n hE hBw hF h hid' hlen hbl ho hn).mono fun e w' ⟨u, F', v', vs', F2', he, ho', hs, h1, h2, _⟩ => ⟨⟨u, he, ho'⟩, F', v', vs', F2', hs, h1, h2⟩
end Go.Proofs.YtinpilfnnmkpoaaDoor
