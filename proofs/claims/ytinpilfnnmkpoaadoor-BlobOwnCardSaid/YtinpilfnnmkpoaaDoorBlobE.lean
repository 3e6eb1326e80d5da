/- The store's Stat and Open. -/
import Derived.Test.YtinpilfnnmkpoaaDoorBlobD
import Derived.Test.YtinpilfnnmkpoaaDoorSwap
namespace Go.Proofs.YtinpilfnnmkpoaaDoor
open Go.RowKit Go.Cour
/-- api's errors, all of them below B. -/
structure ErrsAt (w : World) (P : Nat → Addr) (B : Nat) : Prop where
  errs : Errs w P
  glob : ∀ i, i < 19 → globs.getD i 0 < B
  at_ : ∀ i, i < 19 → (P i).block < B
theorem ErrsAt.of {w : World} {P : Nat → Addr} (h : Errs w P) : ErrsAt w P w.heap.size :=
  ⟨h, fun i hi => lt_of_cell (h.cell i hi), fun i hi => by obtain ⟨c, t, hc⟩ := h.froz i hi; exact (Array.getElem?_eq_some_iff.1 hc).1⟩
theorem ErrsAt.below {w w' : World} {P : Nat → Addr} {B : Nat} (h : ErrsAt w P B) (hb : Below B w w') : ErrsAt w' P B :=
  ⟨⟨fun i hi => (hb.cell (p := ⟨globs.getD i 0, 0, none⟩) (h.glob i hi)).trans (h.errs.cell i hi), h.errs.inj, fun i hi => by
    obtain ⟨c, t, hc⟩ := h.errs.froz i hi
    exact ⟨c, t, (hb.block _ (h.at_ i hi)).trans hc⟩⟩, h.glob, h.at_⟩
/-- An error, or none. -/
def erV (P : Nat → Addr) : Option Nat → Value
  | none => .nilIface
  | some k => errV (P k)
/-- The store is another one now; nothing else has changed. -/
def Becomes (w : World) (F : Nat → Prop) (gs : Nat) (w' : World) (st' : StoreD) : Prop := ∃ F' v vs F2, StoreAt w' F' gs st' v vs F2 ∧ Sub F' F w ∧ Upd F w w'
/-- Three results, each in a slot. -/
theorem results_tmp3 {P : Program} {fn : Func} {p q r : Tmp} (h : fn.results = #[.tmp p, .tmp q, .tmp r]) (tmps : Array Value) (w : World) {u v x : Value} (hp : tmps.getD p undef = u) (hq : tmps.getD q undef = v) (hr : tmps.getD r undef = x) :
    (results fn tmps).run P w = .ok (.tuple #[u, v, x]) w := by
  have hp' : tmps[p]?.getD undef = u := by simpa using hp
  have hq' : tmps[q]?.getD undef = v := by simpa using hq
  have hr' : tmps[r]?.getD undef = x := by simpa using hr
  simp [results, h, hp', hq', hr']
def statOf (id : List Int) (l : List Item) : Int × Bool × Option Nat := match l[posOf id l]? with
  | some x => ((x.b.length : Int), x.done, none)
  | none => (0, false, some 13)
set_option maxHeartbeats 1000000 in
set_option maxRecDepth 100000 in
theorem stat_calls {w : World} {P : Nat → Addr} {B : Nat} {F F2 : Nat → Prop} {gs : Nat} {st : StoreD} {v : Value} {vs : List Value} (id : List Int) (hE : ErrsAt w P B) (hBw : B ≤ w.heap.size) (hF : ∀ k, F k → B ≤ k) (h : StoreAt w F gs st v vs F2) (hid' : id.length = 32) (hlen : st.l.length ≤ 1000000) :
    Calls Tryd.prog 16 #[.pointer (some ⟨gs, 0, none⟩), .agg (ints .u8 id).toArray] w fun e w' => e = .returned (.tuple #[.int .i64 (statOf id st.l).1, .bool (statOf id st.l).2.1, erV P (statOf id st.l).2.2]) ∧ Becomes w F gs w' { st with l := touch id st.l } := by
  have HI := hid hid'
  have H := hid h
  have HLEN := hid hlen
  clear hid' hlen
  by_cases hk : posOf id st.l < st.l.length
  · obtain ⟨x, g, vb, hx, hu, hxl, hb, ho, hFg, hFb, hgs, hvg, hvb, hback⟩ := h.focus _ hk
    obtain ⟨A, c, hvb2, hc, _, _⟩ := ho.parts
    have hr : vs.getD (posOf id st.l) (.pointer none) = .pointer (some ⟨g, 0, none⟩) := by rw [List.getD_eq_getElem?_getD, hu]; rfl
    have hr := hid hr
    have hso : Hd (statOf id st.l = ((x.b.length : Int), x.done, none)) := hid (by unfold statOf; rw [hx])
    rw [hso.out]
    have HT := hid (touch_some hx)
    have HK := hid hk
    clear hback ho hgs hvg hvb hFg hFb hk h hb
    go_enter Tryd.func16, Tryd.ntmps16
    go_wp2_with (first
      | (refine box_blk rfl 30 _ rfl _ rfl (ints .u8 id) rfl ?_; intro gb w1 hgb hbb hB1 hs1
         clear hgb hs1)
      | (refine load_blk rfl 30 _ rfl gb rfl 30 _ hbb 32 5 arrHash (by simp [ints, HI.out]) infoHash ?_)
      | (go_at_call 27; refine (named_calls id (H.out.below hB1) HI.out HLEN.out).mono ?_
         rintro e w2 ⟨he, ⟨F', F2', hst, hsub⟩, hup⟩
         rw [hr.out] at he
         subst he
         obtain ⟨x2, g2, vb2, hx2, hu2, hxl2, hb2, ho2, _⟩ := hst.focus (posOf id st.l) (by rw [HT.out]; simpa using HK.out)
         rw [hu] at hu2
         injection hu2 with hu2; injection hu2 with hu2; injection hu2 with hu2; injection hu2 with hu2
         subst hu2
         have hx3 : x2 = { x with age := 0 } := by
           rw [HT.out, List.getElem?_set_self HK.out] at hx2
           injection hx2 with hx2; exact hx2.symm
         obtain ⟨A2, c2, hv2, _, _, _⟩ := ho2.parts
         have c33 : w2.cell? ⟨g, 33, none⟩ = some (.slice A2 x.b.length c2) := by rw [hb2.cell]; have := itemC_at x2 vb2 hxl2 1; rw [this]; simp [hv2, hx3]
         have c34 : w2.cell? ⟨g, 34, none⟩ = some (.bool x.done) := by rw [hb2.cell]; have := itemC_at x2 vb2 hxl2 2; rw [this]; simp [hx3]
         clear hb2 ho2 hu hx2 hbb)
      | fail)
    go_quiet (fail)
    go_wp2_with fail
    refine bodyPost_ret (results_tmp3 rfl _ _ rfl rfl rfl) rfl ?_
    refine ⟨rfl, F', v, vs, F2', hst.below (below_drewN (Below.refl _ _) _), fun k hk => ?_, ((Upd.of_below hB1 F).trans hup (fun j _ hj => hj)).drewN _⟩
    rcases hsub k hk with h1 | h1
    · exact .inl h1
    · have := hB1.size; exact .inr (by omega)
  · have HT := hid (touch_none (id := id) (l := st.l) hk)
    have hsl := h.star.length
    have hr : vs.getD (posOf id st.l) (.pointer none) = .pointer none := by rw [List.getD_eq_getElem?_getD, List.getElem?_eq_none (by omega)]; rfl
    have hr := hid hr
    have hso : Hd (statOf id st.l = (0, false, some 13)) := hid (by unfold statOf; rw [List.getElem?_eq_none (by omega)])
    rw [hso.out]
    clear hk hsl h
    go_enter Tryd.func16, Tryd.ntmps16
    go_wp2_with (first
      | (refine box_blk rfl 30 _ rfl _ rfl (ints .u8 id) rfl ?_; intro gb w1 hgb hbb hB1 hs1
         clear hgb hs1)
      | (refine load_blk rfl 30 _ rfl gb rfl 30 _ hbb 32 5 arrHash (by simp [ints, HI.out]) infoHash ?_)
      | (go_at_call 27; refine (named_calls id (H.out.below hB1) HI.out HLEN.out).mono ?_
         rintro e w2 ⟨he, ⟨F', F2', hst, hsub⟩, hup⟩
         rw [hr.out] at he
         subst he
         have hu2 := (Upd.of_below hB1 F).trans hup (fun j _ hj => hj)
         have e13 := (hE.below (hu2.below hBw hF)).errs.cell 13 (by omega)
         simp only [globs, List.getD_cons_zero, List.getD_cons_succ] at e13
         clear hbb)
      | fail)
    go_quiet (fail)
    go_wp2_with fail
    refine bodyPost_ret (results_tmp3 rfl _ _ rfl rfl rfl) rfl ?_
    refine ⟨rfl, F', v, vs, F2', hst.below (below_drewN (Below.refl _ _) _), fun k hk => ?_, hu2.drewN _⟩
    rcases hsub k hk with h1 | h1
    · exact .inl h1
    · have := hB1.size; exact .inr (by omega)
end Go.Proofs.YtinpilfnnmkpoaaDoor
