/- The store's Tick. -/
import Derived.Test.YtinpilfnnmkpoaaDoorBlobF
import Derived.Test.YtinpilfnnmkpoaaDoorBlobG
namespace Go.Proofs.YtinpilfnnmkpoaaDoor
open Go.RowKit Go.Cour
def aged (x : Item) : Item := { x with age := x.age + 1 }
def agedTo (l : List Item) (i : Nat) : List Item := (l.take i).map aged ++ l.drop i
def old (life : Int) (x : Item) : Bool := decide (life ≤ x.age)
def tickL (st : StoreD) : List Item := (st.l.map aged).filter fun x => !old st.life x
theorem agedTo_length (l : List Item) (i : Nat) : (agedTo l i).length = l.length := by simp [agedTo]; omega
theorem agedTo_zero (l : List Item) : agedTo l 0 = l := by simp [agedTo]
theorem agedTo_all (l : List Item) : agedTo l l.length = l.map aged := by simp [agedTo]
theorem agedTo_get {l : List Item} {i : Nat} (h : i < l.length) : (agedTo l i)[i]? = l[i]? := by
  unfold agedTo
  rw [List.getElem?_append_right (by simp; omega)]
  simp
  congr 1; omega
theorem agedTo_set {l : List Item} {i : Nat} {x : Item} (h : l[i]? = some x) : (agedTo l i).set i (aged x) = agedTo l (i + 1) := by
  have hl := (List.getElem?_eq_some_iff.1 h).1
  unfold agedTo
  have h1 : ((l.take i).map aged).length = i := by simp; omega
  rw [List.set_append_right _ _ (by omega), h1, Nat.sub_self, List.take_add_one, h]
  have h2 : l.drop i = x :: l.drop (i + 1) := by
    rw [List.drop_eq_getElem_cons hl]
    rw [List.getElem?_eq_getElem hl] at h
    injection h with h
    rw [h]
  rw [h2]
  simp
set_option maxHeartbeats 1000000 in
set_option maxRecDepth 100000 in
theorem tick1_calls {w : World} {F : Nat → Prop} {v : Value} {x : Item} {g gc gs : Nat} {vb : Value} {life : Int} (h : ItemAt w F v x g vb) (hc : w.cell? ⟨gc, 0, none⟩ = some (.pointer (some ⟨gs, 0, none⟩))) (hl : w.cell? ⟨gs, 1, none⟩ = some (.int .i64 life)) :
    Calls Tryd.prog 31 #[.pointer (some ⟨g, 0, none⟩), .pointer (some ⟨gc, 0, none⟩)] w fun e w' => e = .returned (.bool (old life x)) ∧ ∃ q, w' = w.drewN q := by
  have c35 : w.cell? ⟨g, 35, none⟩ = some (.int .i64 x.age) := by rw [h.blk.cell]; exact itemC_at x vb h.idl 3
  go_enter Tryd.func31, Tryd.ntmps31
  go_wp2_with fail
  go_quiet (fail)
  go_wp2_with fail
  go_ret
  exact ⟨rfl, _, rfl⟩
/-- The store behind some of its blobs' going. -/
theorem StoreAt.drop {w w' : World} {F F2 : Nat → Prop} {gs : Nat} {st : StoreD} {v v' : Value} {vs : List Value} (p : Item → Bool) (h : StoreAt w F gs st v vs F2)
    (hv : OwnV w' 0 59 v' (keptL p vs st.l)) (hv' : ∀ k, v'.ownBlock = some k → v.ownBlock = some k) (hs : Blk w' gs 58 [.int .i64 st.quota, .int .i64 st.life, v'])
    (hk : ∀ k, F2 k → w'.heap[k]? = w.heap[k]?) : ∃ F' vs' F2', StoreAt w' F' gs { st with l := st.l.filter fun x => !p x } v' vs' F2' ∧ (∀ k, F' k → F k) := by
  obtain ⟨F3, h3, hsub⟩ := (h.star.kept hk).part (fun x => !p x)
  refine ⟨fun k => k = gs ∨ v'.ownBlock = some k ∨ F3 k, _, F3, ⟨hs, hv, h3, ⟨fun hn => h.apart.1 (hsub _ hn), fun k hk1 hk2 => h.apart.2 k (hv' k hk1) (hsub k hk2)⟩, fun k => Iff.rfl⟩, fun k hk1 => ?_⟩
  rcases hk1 with h1 | h1 | h1
  · exact (h.foot k).2 (.inl h1)
  · exact (h.foot k).2 (.inr (.inl (hv' k h1)))
  · exact (h.foot k).2 (.inr (.inr (hsub k h1)))
theorem StoreAt.cellv {w : World} {F F2 : Nat → Prop} {gs n c : Nat} {A : Option Addr} {st : StoreD} {vs : List Value} (h : StoreAt w F gs st (.slice A n c) vs F2) (i : Nat) (hi : i < vs.length) : ∃ gv, A = some ⟨gv, 0, none⟩ ∧ w.cell? ⟨gv, i, none⟩ = vs[i]? := by
  obtain ⟨A', c', hv, _, _, hcell⟩ := h.own.parts
  injection hv with h1 h2 h3
  subst h1
  exact hcell i hi
theorem star_ptr {w : World} {F : Nat → Prop} {vs : List Value} {l : List Item} (h : Star itemH w F vs l) (i : Nat) (u : Value) (hu : vs[i]? = some u) : ∃ a, u = Value.pointer a := by
  have hl := (List.getElem?_eq_some_iff.1 hu).1
  obtain ⟨v, x, F1, F2, hv, _, ⟨g, vb, hat⟩, _⟩ := h.focus i (by rw [← h.length]; exact hl)
  rw [hu] at hv
  injection hv with hv
  exact ⟨_, hv.trans hat.hv⟩
set_option maxHeartbeats 1000000 in
set_option maxRecDepth 100000 in
theorem btick_calls {w : World} {F F2 : Nat → Prop} {gs : Nat} {st : StoreD} {v : Value} {vs : List Value} (h : StoreAt w F gs st v vs F2) (hlen : st.l.length ≤ 1000000) (hage : ∀ x ∈ st.l, 0 ≤ x.age ∧ x.age < 1000000) :
    Calls Tryd.prog 15 #[.pointer (some ⟨gs, 0, none⟩)] w fun e w' => e = .returned (.int .i64 ((st.l.length : Int) - (tickL st).length)) ∧ Becomes w F gs w' { st with l := tickL st } := by
  have H := hid h
  have HAGE := hid hage
  obtain ⟨A, c, hv, hc, hA, hcell⟩ := h.own.parts
  have hsl := h.star.length
  rw [hsl] at hv hc hcell
  obtain ⟨n, hn⟩ : ∃ n, Hd (st.l.length = n) := ⟨_, ⟨rfl⟩⟩
  rw [hn.out] at hv hc hcell hlen hsl
  subst hv
  have HC := hid hcell
  have c2 : w.cell? ⟨gs, 2, none⟩ = some (.slice A n c) := by rw [h.blk.cell]; rfl
  have hgs := h.blk.lt
  rw [hn.out]
  clear hcell h hage
  go_enter Tryd.func15, Tryd.ntmps15
  go_wp2_with fail
  obtain ⟨gc, hgc⟩ : ∃ gc, gc = w.heap.size := ⟨_, rfl⟩
  obtain ⟨w1, hw1⟩ : ∃ w1, w1 = w.alloc (.cells #[.pointer (some ⟨gs, 0, none⟩)] 24) := ⟨_, rfl⟩
  rw [← hgc, ← hw1]
  have hB1 : Below w.heap.size w w1 := hw1 ▸ (Below.refl _ _).alloc (Nat.le_refl _) _
  have hbc1 : Blk w1 gc 24 [.pointer (some ⟨gs, 0, none⟩)] := hgc ▸ hw1 ▸ Blk.new w _ _
  have hst1 := H.out.below hB1
  have hgcF : Hd (¬ F gc ∧ gs < gc) := hid ⟨fun hf => by have := H.out.lt _ hf; omega, by omega⟩
  have hsB1 := hid hB1
  clear hw1 hgc c2
  go_loopg [16] (n + 1) (fun kq v16 wr => ∃ i : Nat, i ≤ n ∧ v16 = .int .i64 i ∧ Hd (kq + i = n + 1) ∧ (∃ Fr F2r, Hd (StoreAt wr Fr gs { st with l := agedTo st.l i } (.slice A n c) vs F2r ∧ ∀ k, Fr k → F k)) ∧ Hd (Upd F w1 wr) ∧ Hd (Blk wr gc 24 [.pointer (some ⟨gs, 0, none⟩)]))
  case atStart => exact ⟨0, by omega, rfl, hid (by omega), ⟨F, F2, hid ⟨by rw [agedTo_zero]; exact hst1, fun _ h => h⟩⟩, hid (Upd.refl _ _), hid hbc1⟩
  case round =>
    clear hst1 hbc1
    obtain ⟨i, hi, rfl, hq, ⟨Fr, F2r, hst⟩, hup, hbc⟩ := hrel
    by_cases hlt : i < n
    · obtain ⟨x, g, vb, hx, hu, hxl, hb, ho, hFg, hFb, hgs2, hvg, hvb, hback⟩ := hst.out.1.focus2 i (by rw [agedTo_length, hn.out]; exact hlt)
      rw [agedTo_get (by rw [hn.out]; exact hlt)] at hx
      obtain ⟨gv, hA2, hce⟩ := hst.out.1.cellv i (by rw [hsl]; exact hlt)
      subst hA2
      rw [hu] at hce
      have c35 : wr.cell? ⟨g, 35, none⟩ = some (.int .i64 x.age) := by rw [hb.cell]; exact itemC_at x vb hxl 3
      have f35 := hb.frozen 35
      have hag := HAGE.out x (List.mem_of_getElem? hx)
      have ha : IntKind.i64.wrap (x.age + 1) = x.age + 1 := IntWalk.i64_in _ (by omega)
      have hlt2 : (i : Int) < n := by omega
      have HX := hid hx
      have HB := hid hb
      have HO := hid ho
      have HBK := hid hback
      have HGS := hid hgs2
      have HFG := hid hFg
      have HFB := hid hFb
      clear hx hb ho hback hgs2 hvg hvb hu hFg hFb
      go_wp2_with fail
      go_roundg (gk - 1)
      case measure => have := hq.out; omega
      case rel =>
        obtain ⟨F', F2', hst', _, hsub'⟩ := HBK.out (wr.setCell ⟨g, 35, none⟩ (.int .i64 (x.age + 1))) (aged x) vb (by have := HB.out.set 35 (.int .i64 (x.age + 1)); rw [itemC_age x vb hxl] at this; exact this) hxl (HO.out.setOther (by simp; exact fun he => blk_own_ne HB.out HO.out tItem_ne he.symm) _) (fun k hk => .inl hk) (fun k hk hkg hkb => Below.heap_setCell _ _ _ _ hkg)
        have hFgg := hst.out.2 g HFG.out
        refine ⟨i + 1, by omega, by go_num, hid (by have := hq.out; omega), ⟨F', F2', hid ⟨by rw [← agedTo_set HX.out]; exact hst', fun k hk => ?_⟩⟩, hid ?_, hid (hbc.out.setOther (by simp; intro he; exact hgcF.out.1 (he ▸ hFgg)) _)⟩
        · rcases hsub' k hk with h1 | h1
          · exact hst.out.2 k h1
          · exact hst.out.2 k (HFB.out k h1)
        · exact hup.out.trans (Upd.setCell _ _ _) (fun j hj he => by subst he; exact hFgg)
    · have hin : i = n := by omega
      subst hin
      have hlt2 : ¬ (i : Int) < i := by omega
      obtain ⟨L, hL⟩ : ∃ L, Hd (st.l.map aged = L) := ⟨_, ⟨rfl⟩⟩
      have hLl : Hd (L.length = i) := hid (by rw [← hL.out, List.length_map]; exact hn.out)
      have hst2 : StoreAt wr Fr gs { st with l := L } (.slice A i c) vs F2r := by
        have h1 := hst.out.1
        have e : agedTo st.l i = L := by rw [← hn.out, agedTo_all, hL.out]
        rw [e] at h1; exact h1
      have hsays : SaysT wr.drew gc (.slice A i c) vs L (old st.life) := fun w2 hk j x u hx hu => by
        obtain ⟨u', x', F1, F3, hu', hx', hat, _, hF, _⟩ := hst2.star.focus j (List.getElem?_eq_some_iff.1 hx).1
        rw [hu] at hu'; injection hu' with hu'; subst hu'
        have hx'' : some x = some x' := hx.symm.trans hx'
        injection hx'' with hx''; subst hx''
        obtain ⟨g, vb, hat3⟩ := itemH.kept hat (w' := w2) (fun k hk1 => hk k (fun he => hst2.apart.2 k he ((hF k).2 (.inl hk1))))
        rw [hat3.hv]
        have hb1 : Blk w2 gc 24 [.pointer (some ⟨gs, 0, none⟩)] := (hk gc (fun he => hst2.own.ne_blk hbc.out (by decide) he.symm)).trans hbc.out
        have hb2 : Blk w2 gs 58 _ := (hk gs (fun he => hst2.own.ne_blk hst2.blk tStore_ne he.symm)).trans hst2.blk
        exact tick1_calls hat3 (by rw [hb1.cell]; rfl) (by rw [hb2.cell]; rfl)
      have hdel := hid (delT_calls (old st.life) hst2.drew.own (by rw [hsl]; exact hLl.out.symm) hsays (fun j u hu => star_ptr hst2.star j u hu) (by rw [hLl.out]; exact hlen))
      have c2 : wr.cell? ⟨gs, 2, none⟩ = some (.slice A i c) := by rw [hst2.blk.cell]; rfl
      have hbc2 := hbc.out
      clear hsays
      go_wp2_with fail
      have hT := (⟨hbc2.drew, c2⟩ : Blk wr.drew gc 24 [.pointer (some ⟨gs, 0, none⟩)] ∧ wr.drew.cell? ⟨gs, 2, none⟩ = some (.slice A i c))
      refine wp_region_T (T := fun w' => Blk w' gc 24 [.pointer (some ⟨gs, 0, none⟩)] ∧ w'.cell? ⟨gs, 2, none⟩ = some (.slice A i c)) (by kernel_rfl) (by kernel_rfl) hT ?_
      show wpT _ _ _ _ [0, 1, 2, 3, 4, 5, 6, 7, 8, 9] _ _
      apply wpT_read (i := 0) rfl hT rfl -- Op.load 24 t1
      · intro w' hT'
        simp only [List.getElem_toArray, List.getElem_cons_zero, List.getElem_cons_succ]
        have cg' := hT'.1.cell 0
        have c2' := hT'.2
        go_wp2_with fail
        first | exact ⟨rfl, rfl, rfl⟩ | rfl
      apply wpT_read (i := 1) rfl hT rfl -- Op.load 24 t1
      · intro w' hT'
        simp only [List.getElem_toArray, List.getElem_cons_zero, List.getElem_cons_succ]
        have cg' := hT'.1.cell 0
        have c2' := hT'.2
        go_wp2_with fail
        first | exact ⟨rfl, rfl, rfl⟩ | rfl
      apply wpT_read (i := 2) rfl hT rfl -- Op.nilCheck t29
      · intro w' hT'
        simp only [List.getElem_toArray, List.getElem_cons_zero, List.getElem_cons_succ]
        go_wp2_with fail
        first | exact ⟨rfl, rfl, rfl⟩ | rfl
      apply wpT_read (i := 3) rfl hT rfl -- Op.fieldAddr 58 t30 2
      · intro w' hT'
        simp only [List.getElem_toArray, List.getElem_cons_zero, List.getElem_cons_succ]
        go_wp2_with fail
        first | exact ⟨rfl, rfl, rfl⟩ | rfl
      apply wpT_read (i := 4) rfl hT rfl -- Op.load 56 t31
      · intro w' hT'
        simp only [List.getElem_toArray, List.getElem_cons_zero, List.getElem_cons_succ]
        have cg' := hT'.1.cell 0
        have c2' := hT'.2
        go_wp2_with fail
        first | exact ⟨rfl, rfl, rfl⟩ | rfl
      apply wpT_read (i := 5) rfl hT rfl -- Op.makeFunc (Fn.func 31) #[] #[t1]
      · intro w' hT'
        simp only [List.getElem_toArray, List.getElem_cons_zero, List.getElem_cons_succ]
        go_wp2_with fail
        first | exact ⟨rfl, rfl, rfl⟩ | rfl
      refine wpT_act (i := 6) rfl rfl ?_ -- Op.call { value (Operand.func 30), args := #[t32, t33], argTypes := 
      simp only [List.getElem_toArray, List.getElem_cons_zero, List.getElem_cons_succ]
      go_wp2_with (first
        | (go_at_call 30; refine hdel.out.mono ?_; rintro e w2 ⟨v', rfl, hov, hvb, hu2⟩)
        | fail)
      have hvb := hid hvb
      have hu2 := hid hu2
      have hngc := hst2.own.ne_blk hbc2 (by decide)
      have hngs := hst2.own.ne_blk hst2.blk tStore_ne
      have hT1 := hT.1.upd hu2.out (fun he => hngc he.symm)
      have hs2 := hst2.drew.blk.upd hu2.out (fun he => hngs he.symm)
      have hT := (⟨hT1, by rw [hs2.cell]; rfl⟩ : Blk w2 gc 24 [.pointer (some ⟨gs, 0, none⟩)] ∧ w2.cell? ⟨gs, 2, none⟩ = some (.slice A i c))
      have c22 := hT.2
      have f22 := hs2.frozen 2
      obtain ⟨A', c', hv', _, _, _⟩ := hov.parts
      obtain ⟨m', hm'⟩ : ∃ m', Hd ((keptL (old st.life) vs L).length = m') := ⟨_, ⟨rfl⟩⟩
      rw [hm'.out] at hv'
      subst hv'
      first | refine ⟨rfl, rfl, hT, ?_⟩ | (show _ ∧ _; refine ⟨hT, ?_⟩) | skip
      apply wpT_read (i := 7) rfl hT rfl -- Op.nilCheck t28
      · intro w' hT'
        simp only [List.getElem_toArray, List.getElem_cons_zero, List.getElem_cons_succ]
        go_wp2_with fail
        first | exact ⟨rfl, rfl, rfl⟩ | rfl
      apply wpT_read (i := 8) rfl hT rfl -- Op.fieldAddr 58 t35 2
      · intro w' hT'
        simp only [List.getElem_toArray, List.getElem_cons_zero, List.getElem_cons_succ]
        go_wp2_with fail
        first | exact ⟨rfl, rfl, rfl⟩ | rfl
      refine wpT_tot (fun w' => True) (i := 9) rfl rfl (by kernel_rfl) ?_ -- Op.store 56 t36 t34
      simp only [List.getElem_toArray, List.getElem_cons_zero, List.getElem_cons_succ]
      go_wp2_with fail
      have hT : True := trivial
      first | refine ⟨rfl, rfl, hT, ?_⟩ | (show _ ∧ _; refine ⟨hT, ?_⟩) | skip
      refine wpT_end ?_
      try dsimp only

      have hw2 : Upd Fr wr w2 := ((Upd.refl Fr wr).drew).trans hu2.out (fun j _ hj => (hst2.foot j).2 (.inr (.inl hj)))
      have hbs3 := hs2.set 2 (.slice A' m' c')
      have hbc3 := hT1.setOther (a := ⟨gs, 2, none⟩) (by simp; have := hgcF.out.2; omega) (.slice A' m' c')
      obtain ⟨F', vs', F2', hst4, hsub4⟩ := hst2.drop (w' := w2.setCell ⟨gs, 2, none⟩ (.slice A' m' c')) (v' := .slice A' m' c') (old st.life) (hov.kept' fun j hj => Below.heap_setCell _ _ _ _ (fun he => hov.ne_blk hs2 tStore_ne (by rw [hj, he]))) hvb.out (by have := hbs3; exact this) (fun k hk => by
        have hkg : k ≠ gs := fun he => hst2.apart.1 (he ▸ hk)
        exact (Below.heap_setCell _ _ _ _ hkg).trans (hu2.out.block k (hst2.star.lt k hk) (fun he => hst2.apart.2 k he hk)))
      have hu4 : Upd Fr wr (w2.setCell ⟨gs, 2, none⟩ (.slice A' m' c')) := hw2.trans (Upd.setCell _ _ _) (fun j _ he => (hst2.foot j).2 (.inl he))
      obtain ⟨w3, hw3⟩ : ∃ w3, w3 = w2.setCell ⟨gs, 2, none⟩ (.slice A' m' c') := ⟨_, rfl⟩
      rw [← hw3] at hbs3 hbc3 hst4 hu4 ⊢
      have c23 : w3.cell? ⟨gs, 2, none⟩ = some (.slice A' m' c') := by rw [hbs3.cell]; rfl
      have cg3 : w3.cell? ⟨gc, 0, none⟩ = some (.pointer (some ⟨gs, 0, none⟩)) := by rw [hbc3.cell]; rfl
      have hml : Hd ((m' : Int) = (tickL st).length) := hid (by
        rw [tickL, hL.out]
        have h1 := hst4.star.length
        rw [← hm'.out]
        have h2 : (keptL (old st.life) vs L).length = (L.filter fun x => !old st.life x).length := (Star.part (H := itemH) (fun x => !old st.life x) hst2.star).choose_spec.1.length
        rw [h2])
      have hm16 : m' ≤ i := by
        have h1 := hml.out
        have h2 : (tickL st).length ≤ i := by
          rw [tickL]; refine Nat.le_trans (List.length_filter_le _ _) ?_; rw [List.length_map, hn.out]; exact Nat.le_refl _
        omega
      have ha : IntKind.i64.wrap ((i : Int) - m') = (i : Int) - m' := IntWalk.i64_in _ (by omega)
      clear hw3 hu2 hov hT1 hs2 hbs3 hbc3 hT hw2
      go_wp2_with fail
      go_ret
      have h1 : tickL st = L.filter fun x => !old st.life x := by rw [tickL, hL.out]
      have h5 : StoreAt w3 F' gs { st with l := tickL st } (.slice A' m' c') vs' F2' := by rw [h1]; exact hst4
      exact ⟨by rw [← hml.out]; rfl, F', _, vs', F2', h5, fun k hk => .inl (hst.out.2 k (hsub4 k hk)), ((Upd.of_below (hsB1.out) F).trans hup.out (fun j _ hj => hj)).trans hu4 (fun j _ hj => hst.out.2 j hj)⟩
end Go.Proofs.YtinpilfnnmkpoaaDoor
