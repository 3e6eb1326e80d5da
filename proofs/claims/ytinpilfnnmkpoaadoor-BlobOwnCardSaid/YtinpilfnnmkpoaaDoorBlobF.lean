/- The store's Open. -/
import Derived.Test.YtinpilfnnmkpoaaDoorBlobE
import Derived.Test.YtinpilfnnmkpoaaDoorApp
import Derived.Test.YtinpilfnnmkpoaaDoorErrB
namespace Go.Proofs.YtinpilfnnmkpoaaDoor
open Go.RowKit Go.Cour
def newItem (id : List Int) (n : Int) : Item := ⟨id, n, [], false, 0⟩
def openE (st : StoreD) (id : List Int) (n : Int) : Option Nat :=
  if n < 1 ∨ 30000 < n then some 1 else if posOf id st.l < st.l.length then some 14 else if 16 ≤ st.l.length then some 17 else if st.quota - used st.l < n then some 6 else none
def openS (st : StoreD) (id : List Int) (n : Int) : StoreD :=
  if n < 1 ∨ 30000 < n then st else if posOf id st.l < st.l.length then { st with l := touch id st.l } else if 16 ≤ st.l.length then st else if st.quota - used st.l < n then st else { st with l := st.l ++ [newItem id n] }
theorem Becomes.same {w w' : World} {F F2 : Nat → Prop} {gs : Nat} {st : StoreD} {v : Value} {vs : List Value} (h : StoreAt w F gs st v vs F2) (hb : Below w.heap.size w w') : Becomes w F gs w' st :=
  ⟨F, v, vs, F2, h.below hb, Sub.refl _ _, Upd.of_below hb F⟩
theorem builtItem (id : List Int) (n : Int) (h : id.length = 32) : Tryd.prog.built 62 [(0, .agg (ints .u8 id).toArray), (1, .int .i64 n)] = some (itemC (newItem id n) (.slice none 0 0)).toArray := by
  match id, h with
  | [x0, x1, x2, x3, x4, x5, x6, x7, x8, x9, x10, x11, x12, x13, x14, x15, x16, x17, x18, x19, x20, x21, x22, x23, x24, x25, x26, x27, x28, x29, x30, x31], _ => change _ = _; kernel_rfl
theorem tStore_ne : (59 : TypeId) ≠ 58 := by decide
theorem undItem : ∃ fs, Tryd.prog.underlying 62 = some (.struct fs) := ⟨_, Tryd.underlying62⟩
theorem sizePItem : (Tryd.prog.info? 59).map (·.size) = some 1 := by kernel_rfl
theorem zeroPItem : ((Tryd.prog.info? 59).bind (·.zero)).isSome = true := by kernel_rfl
theorem infoPItem : (Tryd.prog.info? 59).map (fun i => (i.zero.map (·.cells.size), i.size, i.bytes)) = some (some 1, 1, 8) := by kernel_rfl
/-- One blob more in the store. -/
theorem StoreAt.snoc {w w' : World} {F F2 : Nat → Prop} {gs : Nat} {st : StoreD} {v v' : Value} {vs : List Value} {g : Nat} {x : Item} (h : StoreAt w F gs st v vs F2)
    (hb : Blk w' g 62 (itemC x (.slice none 0 0))) (hx : x.id.length = 32) (hxb : x.b = []) (hg : w.heap.size ≤ g) (hv : OwnV w' 0 59 v' (vs ++ [.pointer (some ⟨g, 0, none⟩)])) (hv' : ∀ k, v'.ownBlock = some k → v.ownBlock = some k ∨ g < k) (hs : Blk w' gs 58 [.int .i64 st.quota, .int .i64 st.life, v'])
    (hk : ∀ k, F2 k → w'.heap[k]? = w.heap[k]?) : ∃ F' F2', StoreAt w' F' gs { st with l := st.l ++ [x] } v' (vs ++ [.pointer (some ⟨g, 0, none⟩)]) F2' ∧ Sub F' F w := by
  have hgF : ¬ F2 g := fun hn => by have := h.star.lt g hn; omega
  have hst := Star.snoc (H := itemH) (F1 := fun k => k = g) (h.star.kept hk) ⟨g, .slice none 0 0, rfl, hx, hb, by rw [hxb]; exact Own.nil _ _ _ _, fun k => ⟨fun h => .inl h, fun h => h.resolve_right (by simp [Value.ownBlock])⟩⟩ (fun k hk1 hk2 => hgF (hk2 ▸ hk1))
  have hgs := h.blk.lt
  refine ⟨fun k => k = gs ∨ v'.ownBlock = some k ∨ F2 k ∨ k = g, _, ⟨hs, hv, hst, ⟨fun hn => ?_, fun k hk1 hk2 => ?_⟩, fun k => Iff.rfl⟩, fun k hk1 => ?_⟩
  · rcases hn with hn | hn
    · exact h.apart.1 hn
    · omega
  · rcases hk2 with hk2 | hk2
    · rcases hv' k hk1 with h1 | h1
      · exact h.apart.2 k h1 hk2
      · have := h.star.lt k hk2; omega
    · rcases hv' k hk1 with h1 | h1
      · have := h.own.lt_size k h1; omega
      · omega
  · rcases hk1 with h1 | h1 | h1 | h1
    · exact .inl ((h.foot k).2 (.inl h1))
    · rcases hv' k h1 with h2 | h2
      · exact .inl ((h.foot k).2 (.inr (.inl h2)))
      · exact .inr (by omega)
    · exact .inl ((h.foot k).2 (.inr (.inr h1)))
    · exact .inr (by omega)
set_option maxHeartbeats 1000000 in
set_option maxRecDepth 100000 in
theorem bopen_calls {w : World} {P : Nat → Addr} {B : Nat} {F F2 : Nat → Prop} {gs : Nat} {st : StoreD} {v : Value} {vs : List Value} (id : List Int) (n : Int) (hE : ErrsAt w P B) (hBw : B ≤ w.heap.size) (hF : ∀ k, F k → B ≤ k) (h : StoreAt w F gs st v vs F2) (hG : Good st) (hid' : id.length = 32) :
    Calls Tryd.prog 11 #[.pointer (some ⟨gs, 0, none⟩), .agg (ints .u8 id).toArray, .int .i64 n] w fun e w' => e = .returned (erV P (openE st id n)) ∧ Becomes w F gs w' (openS st id n) := by
  have HI := hid hid'
  have H := hid h
  have HLEN := hid (show st.l.length ≤ 1000000 by have := hG.len; omega)
  clear hid'
  by_cases hr : n < 1 ∨ 30000 < n
  · have hoe : Hd (openE st id n = some 1) := hid (if_pos hr)
    have hos : Hd (openS st id n = st) := hid (if_pos hr)
    rw [hoe.out, hos.out]
    rcases hr with hr | hr
    all_goals
      have hr2 : (30000 < n) ↔ ¬ n < 1 := by omega
      go_enter Tryd.func11, Tryd.ntmps11
      go_wp2_with (first
        | (refine box_blk rfl 30 _ rfl _ rfl (ints .u8 id) rfl ?_; intro gb w1 hgb hbb hB1 hs1
           have e1 := (hE.below (hB1.mono hBw)).errs.cell 1 (by omega)
           simp only [globs, List.getD_cons_zero, List.getD_cons_succ] at e1)
        | fail)
      go_ret
      exact ⟨rfl, .same H.out hB1⟩
  · have h1 : ¬ n < 1 := by omega
    have h2 : ¬ 30000 < n := by omega
    clear hr
    have hr0 : ¬ (n < 1 ∨ 30000 < n) := by omega
    by_cases hk : posOf id st.l < st.l.length
    · have hoe : Hd (openE st id n = some 14) := hid (by unfold openE; rw [if_neg hr0, if_pos hk])
      have hos : Hd (openS st id n = { st with l := touch id st.l }) := hid (by unfold openS; rw [if_neg hr0, if_pos hk])
      rw [hoe.out, hos.out]
      obtain ⟨x, g, vb, hx, hu, _⟩ := h.focus _ hk
      have hr := hid (show vs.getD (posOf id st.l) (.pointer none) = .pointer (some ⟨g, 0, none⟩) by rw [List.getD_eq_getElem?_getD, hu]; rfl)
      clear hk hr0 h hx hu
      go_enter Tryd.func11, Tryd.ntmps11
      go_wp2_with (first
        | (refine box_blk rfl 30 _ rfl _ rfl (ints .u8 id) rfl ?_; intro gb w1 hgb hbb hB1 hs1
           clear hgb hs1)
        | (refine load_blk rfl 30 _ rfl gb rfl 30 _ hbb 32 5 arrHash (by simp [ints, HI.out]) infoHash ?_)
        | (go_at_call 27; refine (named_calls id (H.out.below hB1) HI.out HLEN.out).mono ?_
           rintro e w2 ⟨he, ⟨F', F2', hst, hsub⟩, hup⟩
           rw [hr.out] at he
           subst he
           have hu2 := (Upd.of_below hB1 F).trans hup (fun j _ hj => hj)
           have e14 := (hE.below (hu2.below hBw hF)).errs.cell 14 (by omega)
           simp only [globs, List.getD_cons_zero, List.getD_cons_succ] at e14
           clear hbb)
        | fail)
      go_ret
      refine ⟨rfl, F', v, vs, F2', hst, fun k hk => ?_, hu2⟩
      rcases hsub k hk with h1 | h1
      · exact .inl h1
      · have := hB1.size; exact .inr (by omega)
    · have HT := hid (touch_none (id := id) (l := st.l) hk)
      have hsl := h.star.length
      have hr := hid (show vs.getD (posOf id st.l) (.pointer none) = .pointer none by rw [List.getD_eq_getElem?_getD, List.getElem?_eq_none (by omega)]; rfl)
      obtain ⟨A, c, hv, hc, _, _⟩ := h.own.parts
      rw [hsl] at hv hc
      obtain ⟨m, hm⟩ : ∃ m, Hd (st.l.length = m) := ⟨_, ⟨rfl⟩⟩
      rw [hm.out] at hv hc
      subst hv
      have HSL := hid hsl
      have hm16 : m ≤ 16 := by rw [← hm.out]; exact hG.len
      have HG := hid hG
      have HK := hid hk
      clear hk h hsl hG
      by_cases hm17 : 16 ≤ m
      · have hoe : Hd (openE st id n = some 17) := hid (by unfold openE; rw [if_neg hr0, if_neg HK.out, hm.out, if_pos hm17])
        have hos : Hd (openS st id n = st) := hid (by unfold openS; rw [if_neg hr0, if_neg HK.out, hm.out, if_pos hm17])
        rw [hoe.out, hos.out]
        clear hr0
        have hm18 : 16 ≤ (m : Int) := by omega
        go_enter Tryd.func11, Tryd.ntmps11
        go_wp2_with (first
          | (refine box_blk rfl 30 _ rfl _ rfl (ints .u8 id) rfl ?_; intro gb w1 hgb hbb hB1 hs1
             clear hs1)
          | (refine load_blk rfl 30 _ rfl gb rfl 30 _ hbb 32 5 arrHash (by simp [ints, HI.out]) infoHash ?_)
          | (go_at_call 27; refine (named_calls id (H.out.below hB1) HI.out HLEN.out).mono ?_
             rintro e w2 ⟨he, ⟨F', F2', hst, hsub⟩, hup⟩
             rw [hr.out] at he
             subst he
             rw [HT.out] at hst
             have hu2 := (Upd.of_below hB1 F).trans hup (fun j _ hj => hj)
             have hsub2 : Sub F' F w := fun k hk => (hsub k hk).imp (fun h => h) (fun h => by have := hB1.size; omega)
             have e17 := (hE.below (hu2.below hBw hF)).errs.cell 17 (by omega)
             have e6 := (hE.below (hu2.below hBw hF)).errs.cell 6 (by omega)
             simp only [globs, List.getD_cons_zero, List.getD_cons_succ] at e17 e6
             replace hbb := hbb.upd hup (fun hf => by have := H.out.lt _ hf; omega)
             have c2 : w2.cell? ⟨gs, 2, none⟩ = some (.slice A m c) := by rw [hst.blk.cell]; rfl
             have c0 : w2.cell? ⟨gs, 0, none⟩ = some (.int .i64 st.quota) := by rw [hst.blk.cell]; rfl)
          | fail)
        go_ret
        exact ⟨rfl, F', _, vs, F2', hst, hsub2, hu2⟩
      · have hm18 : ¬ 16 ≤ (m : Int) := by omega
        obtain ⟨U, hU⟩ : ∃ U, Hd (used st.l = U) := ⟨_, ⟨rfl⟩⟩
        have hub : 0 ≤ U ∧ U ≤ 480000 := by
          have := used_bound_take HG.out st.l.length
          rw [List.take_length, hU.out] at this; exact this
        by_cases hq : st.quota - U < n
        · have hoe : Hd (openE st id n = some 6) := hid (by unfold openE; rw [if_neg hr0, if_neg HK.out, hm.out, if_neg hm17, hU.out, if_pos hq])
          have hos : Hd (openS st id n = st) := hid (by unfold openS; rw [if_neg hr0, if_neg HK.out, hm.out, if_neg hm17, hU.out, if_pos hq])
          rw [hoe.out, hos.out]
          clear hr0
          go_enter Tryd.func11, Tryd.ntmps11
          go_wp2_with (first
            | (refine box_blk rfl 30 _ rfl _ rfl (ints .u8 id) rfl ?_; intro gb w1 hgb hbb hB1 hs1
               clear hs1)
            | (refine load_blk rfl 30 _ rfl gb rfl 30 _ hbb 32 5 arrHash (by simp [ints, HI.out]) infoHash ?_)
            | (go_at_call 27; refine (named_calls id (H.out.below hB1) HI.out HLEN.out).mono ?_
               rintro e w2 ⟨he, ⟨F', F2', hst, hsub⟩, hup⟩
               rw [hr.out] at he
               subst he
               rw [HT.out] at hst
               have hu2 := (Upd.of_below hB1 F).trans hup (fun j _ hj => hj)
               have hsub2 : Sub F' F w := fun k hk => (hsub k hk).imp (fun h => h) (fun h => by have := hB1.size; omega)
               have e17 := (hE.below (hu2.below hBw hF)).errs.cell 17 (by omega)
               have e6 := (hE.below (hu2.below hBw hF)).errs.cell 6 (by omega)
               simp only [globs, List.getD_cons_zero, List.getD_cons_succ] at e17 e6
               replace hbb := hbb.upd hup (fun hf => by have := H.out.lt _ hf; omega)
               have c2 : w2.cell? ⟨gs, 2, none⟩ = some (.slice A m c) := by rw [hst.blk.cell]; rfl
               have c0 : w2.cell? ⟨gs, 0, none⟩ = some (.int .i64 st.quota) := by rw [hst.blk.cell]; rfl)
            | fail)
          have hT := below_drewN (Below.refl w2.heap.size w2) 1
          refine wp_region_T (T := fun w' => Below w2.heap.size w2 w') (by kernel_rfl) (by kernel_rfl) hT ?_
          show wpT _ _ _ _ [0, 1, 2, 3, 4, 5, 6, 7, 8, 9] _ _
          apply wpT_read (i := 0) rfl hT rfl -- Op.move t2
          · intro w' hT'
            simp only [List.getElem_toArray, List.getElem_cons_zero, List.getElem_cons_succ]
            go_wp2_with fail
            first | exact ⟨rfl, rfl, rfl⟩ | rfl
          apply wpT_read (i := 1) rfl hT rfl -- Op.move t0
          · intro w' hT'
            simp only [List.getElem_toArray, List.getElem_cons_zero, List.getElem_cons_succ]
            go_wp2_with fail
            first | exact ⟨rfl, rfl, rfl⟩ | rfl
          apply wpT_read (i := 2) rfl hT rfl -- Op.nilCheck t31
          · intro w' hT'
            simp only [List.getElem_toArray, List.getElem_cons_zero, List.getElem_cons_succ]
            go_wp2_with fail
            first | exact ⟨rfl, rfl, rfl⟩ | rfl
          apply wpT_read (i := 3) rfl hT rfl -- Op.fieldAddr 58 t32 0
          · intro w' hT'
            simp only [List.getElem_toArray, List.getElem_cons_zero, List.getElem_cons_succ]
            go_wp2_with fail
            first | exact ⟨rfl, rfl, rfl⟩ | rfl
          apply wpT_read (i := 4) rfl hT rfl -- Op.load 3 t33
          · intro w' hT'
            simp only [List.getElem_toArray, List.getElem_cons_zero, List.getElem_cons_succ]
            have c0' := (hT'.cell (lt_of_cell c0)).trans c0
            go_wp2_with fail
            first | exact ⟨rfl, rfl, rfl⟩ | rfl
          apply wpT_read (i := 5) rfl hT rfl -- Op.move t0
          · intro w' hT'
            simp only [List.getElem_toArray, List.getElem_cons_zero, List.getElem_cons_succ]
            go_wp2_with fail
            first | exact ⟨rfl, rfl, rfl⟩ | rfl
          refine wpT_act (i := 6) rfl rfl ?_ -- Op.call { value (Operand.func 14), args := #[t35], argTypes := #[24]
          simp only [List.getElem_toArray, List.getElem_cons_zero, List.getElem_cons_succ]
          go_wp2_with (first
            | (go_at_call 14; refine (bused_calls hst.drew HG.out).mono ?_; rintro e w3 ⟨rfl, q3, hw3⟩; rw [hU.out]; have hT3 : Below w2.heap.size w2 w3 := hw3 ▸ below_drewN (below_drewN (Below.refl w2.heap.size w2) 1) q3; clear hw3)
            | fail)
          have hT := hT3
          have ha : IntKind.i64.wrap (st.quota - U) = st.quota - U := IntWalk.i64_in _ (by have := HG.out.q; omega)
          first | refine ⟨rfl, rfl, hT, ?_⟩ | (show _ ∧ _; refine ⟨hT, ?_⟩) | skip
          apply wpT_read (i := 7) rfl hT rfl -- Op.binOp BinOp.sub 3 t34 t36 3
          · intro w' hT'
            simp only [List.getElem_toArray, List.getElem_cons_zero, List.getElem_cons_succ]
            go_wp2_with fail
            first | exact ⟨rfl, rfl, rfl⟩ | rfl
          apply wpT_read (i := 8) rfl hT rfl -- Op.binOp BinOp.gtr 3 t30 t37 3
          · intro w' hT'
            simp only [List.getElem_toArray, List.getElem_cons_zero, List.getElem_cons_succ]
            go_wp2_with fail
            first | exact ⟨rfl, rfl, rfl⟩ | rfl
          apply wpT_read (i := 9) rfl hT rfl -- Op.assign t38
          · intro w' hT'
            simp only [List.getElem_toArray, List.getElem_cons_zero, List.getElem_cons_succ]
            go_wp2_with fail
            first | exact ⟨rfl, rfl, rfl⟩ | rfl
          refine wpT_end ?_
          try dsimp only

          replace e6 := (hT.cell (lt_of_cell e6)).trans e6
          go_wp2_with fail
          go_ret
          exact ⟨rfl, F', _, vs, F2', hst.below hT, hsub2, hu2.trans (Upd.of_below hT F) (fun j _ hj => hj)⟩
        · have hoe : Hd (openE st id n = none) := hid (by unfold openE; rw [if_neg hr0, if_neg HK.out, hm.out, if_neg hm17, hU.out, if_neg hq])
          have hos : Hd (openS st id n = { st with l := st.l ++ [newItem id n] }) := hid (by unfold openS; rw [if_neg hr0, if_neg HK.out, hm.out, if_neg hm17, hU.out, if_neg hq])
          rw [hoe.out, hos.out]
          clear hr0
          go_enter Tryd.func11, Tryd.ntmps11
          go_wp2_with (first
            | (refine box_blk rfl 30 _ rfl _ rfl (ints .u8 id) rfl ?_; intro gb w1 hgb hbb hB1 hs1
               clear hs1)
            | (refine load_blk rfl 30 _ rfl gb rfl 30 _ hbb 32 5 arrHash (by simp [ints, HI.out]) infoHash ?_)
            | (go_at_call 27; refine (named_calls id (H.out.below hB1) HI.out HLEN.out).mono ?_
               rintro e w2 ⟨he, ⟨F', F2', hst, hsub⟩, hup⟩
               rw [hr.out] at he
               subst he
               rw [HT.out] at hst
               have hu2 := (Upd.of_below hB1 F).trans hup (fun j _ hj => hj)
               have hsub2 : Sub F' F w := fun k hk => (hsub k hk).imp (fun h => h) (fun h => by have := hB1.size; omega)
               have e17 := (hE.below (hu2.below hBw hF)).errs.cell 17 (by omega)
               have e6 := (hE.below (hu2.below hBw hF)).errs.cell 6 (by omega)
               simp only [globs, List.getD_cons_zero, List.getD_cons_succ] at e17 e6
               replace hbb := hbb.upd hup (fun hf => by have := H.out.lt _ hf; omega)
               have c2 : w2.cell? ⟨gs, 2, none⟩ = some (.slice A m c) := by rw [hst.blk.cell]; rfl
               have c0 : w2.cell? ⟨gs, 0, none⟩ = some (.int .i64 st.quota) := by rw [hst.blk.cell]; rfl)
            | fail)
          have hT := below_drewN (Below.refl w2.heap.size w2) 1
          refine wp_region_T (T := fun w' => Below w2.heap.size w2 w') (by kernel_rfl) (by kernel_rfl) hT ?_
          show wpT _ _ _ _ [0, 1, 2, 3, 4, 5, 6, 7, 8, 9] _ _
          apply wpT_read (i := 0) rfl hT rfl -- Op.move t2
          · intro w' hT'
            simp only [List.getElem_toArray, List.getElem_cons_zero, List.getElem_cons_succ]
            go_wp2_with fail
            first | exact ⟨rfl, rfl, rfl⟩ | rfl
          apply wpT_read (i := 1) rfl hT rfl -- Op.move t0
          · intro w' hT'
            simp only [List.getElem_toArray, List.getElem_cons_zero, List.getElem_cons_succ]
            go_wp2_with fail
            first | exact ⟨rfl, rfl, rfl⟩ | rfl
          apply wpT_read (i := 2) rfl hT rfl -- Op.nilCheck t31
          · intro w' hT'
            simp only [List.getElem_toArray, List.getElem_cons_zero, List.getElem_cons_succ]
            go_wp2_with fail
            first | exact ⟨rfl, rfl, rfl⟩ | rfl
          apply wpT_read (i := 3) rfl hT rfl -- Op.fieldAddr 58 t32 0
          · intro w' hT'
            simp only [List.getElem_toArray, List.getElem_cons_zero, List.getElem_cons_succ]
            go_wp2_with fail
            first | exact ⟨rfl, rfl, rfl⟩ | rfl
          apply wpT_read (i := 4) rfl hT rfl -- Op.load 3 t33
          · intro w' hT'
            simp only [List.getElem_toArray, List.getElem_cons_zero, List.getElem_cons_succ]
            have c0' := (hT'.cell (lt_of_cell c0)).trans c0
            go_wp2_with fail
            first | exact ⟨rfl, rfl, rfl⟩ | rfl
          apply wpT_read (i := 5) rfl hT rfl -- Op.move t0
          · intro w' hT'
            simp only [List.getElem_toArray, List.getElem_cons_zero, List.getElem_cons_succ]
            go_wp2_with fail
            first | exact ⟨rfl, rfl, rfl⟩ | rfl
          refine wpT_act (i := 6) rfl rfl ?_ -- Op.call { value (Operand.func 14), args := #[t35], argTypes := #[24]
          simp only [List.getElem_toArray, List.getElem_cons_zero, List.getElem_cons_succ]
          go_wp2_with (first
            | (go_at_call 14; refine (bused_calls hst.drew HG.out).mono ?_; rintro e w3 ⟨rfl, q3, hw3⟩; rw [hU.out]; have hT3 : Below w2.heap.size w2 w3 := hw3 ▸ below_drewN (below_drewN (Below.refl w2.heap.size w2) 1) q3; clear hw3)
            | fail)
          have hT := hT3
          have ha : IntKind.i64.wrap (st.quota - U) = st.quota - U := IntWalk.i64_in _ (by have := HG.out.q; omega)
          first | refine ⟨rfl, rfl, hT, ?_⟩ | (show _ ∧ _; refine ⟨hT, ?_⟩) | skip
          apply wpT_read (i := 7) rfl hT rfl -- Op.binOp BinOp.sub 3 t34 t36 3
          · intro w' hT'
            simp only [List.getElem_toArray, List.getElem_cons_zero, List.getElem_cons_succ]
            go_wp2_with fail
            first | exact ⟨rfl, rfl, rfl⟩ | rfl
          apply wpT_read (i := 8) rfl hT rfl -- Op.binOp BinOp.gtr 3 t30 t37 3
          · intro w' hT'
            simp only [List.getElem_toArray, List.getElem_cons_zero, List.getElem_cons_succ]
            go_wp2_with fail
            first | exact ⟨rfl, rfl, rfl⟩ | rfl
          apply wpT_read (i := 9) rfl hT rfl -- Op.assign t38
          · intro w' hT'
            simp only [List.getElem_toArray, List.getElem_cons_zero, List.getElem_cons_succ]
            go_wp2_with fail
            first | exact ⟨rfl, rfl, rfl⟩ | rfl
          refine wpT_end ?_
          try dsimp only

          go_wp2_with fail
          have hst3 := hst.below hT
          have hu3 := hu2.trans (Upd.of_below hT F) (fun j _ hj => hj)
          have hb3 := hbb.belowAll hT
          have c23 : w3.cell? ⟨gs, 2, none⟩ = some (.slice A m c) := (hT.cell (lt_of_cell c2)).trans c2
          clear hT hu2 hst hbb c2 c0 e6 e17
          have hT := (⟨hb3.drew, c23⟩ : Blk w3.drew gb 30 (ints .u8 id) ∧ w3.drew.cell? ⟨gs, 2, none⟩ = some (.slice A m c))
          refine wp_region_T (T := fun w' => Blk w' gb 30 (ints .u8 id) ∧ w'.cell? ⟨gs, 2, none⟩ = some (.slice A m c)) (by kernel_rfl) (by kernel_rfl) hT ?_
          show wpT _ _ _ _ [0, 1, 2, 3, 4, 5, 6, 7, 8, 9, 10, 11, 12, 13] _ _
          apply wpT_read (i := 0) rfl hT rfl -- Op.move t0
          · intro w' hT'
            simp only [List.getElem_toArray, List.getElem_cons_zero, List.getElem_cons_succ]
            go_wp2_with fail
            first | exact ⟨rfl, rfl, rfl⟩ | rfl
          apply wpT_read (i := 1) rfl hT rfl -- Op.move t0
          · intro w' hT'
            simp only [List.getElem_toArray, List.getElem_cons_zero, List.getElem_cons_succ]
            go_wp2_with fail
            first | exact ⟨rfl, rfl, rfl⟩ | rfl
          apply wpT_read (i := 2) rfl hT rfl -- Op.nilCheck t41
          · intro w' hT'
            simp only [List.getElem_toArray, List.getElem_cons_zero, List.getElem_cons_succ]
            go_wp2_with fail
            first | exact ⟨rfl, rfl, rfl⟩ | rfl
          apply wpT_read (i := 3) rfl hT rfl -- Op.fieldAddr 58 t42 2
          · intro w' hT'
            simp only [List.getElem_toArray, List.getElem_cons_zero, List.getElem_cons_succ]
            go_wp2_with fail
            first | exact ⟨rfl, rfl, rfl⟩ | rfl
          apply wpT_read (i := 4) rfl hT rfl -- Op.load 56 t43
          · intro w' hT'
            simp only [List.getElem_toArray, List.getElem_cons_zero, List.getElem_cons_succ]
            have c23' := hT'.2
            go_wp2_with (first
              | (refine load_blk rfl 30 _ rfl gb rfl 30 _ hT'.1 32 5 arrHash (by simp [ints, HI.out]) infoHash ?_)
              | (refine build_to rfl 62 _ rfl (itemC (newItem id n) (.slice none 0 0)).toArray (by rw [Array.toList_map]; exact builtItem id n HI.out) ?_)
              | fail)
            first | exact ⟨rfl, rfl, rfl⟩ | rfl
          apply wpT_read (i := 5) rfl hT rfl -- Op.load 30 t4
          · intro w' hT'
            simp only [List.getElem_toArray, List.getElem_cons_zero, List.getElem_cons_succ]
            have c23' := hT'.2
            go_wp2_with (first
              | (refine load_blk rfl 30 _ rfl gb rfl 30 _ hT'.1 32 5 arrHash (by simp [ints, HI.out]) infoHash ?_)
              | (refine build_to rfl 62 _ rfl (itemC (newItem id n) (.slice none 0 0)).toArray (by rw [Array.toList_map]; exact builtItem id n HI.out) ?_)
              | fail)
            first | exact ⟨rfl, rfl, rfl⟩ | rfl
          apply wpT_read (i := 6) rfl hT rfl -- Op.move t2
          · intro w' hT'
            simp only [List.getElem_toArray, List.getElem_cons_zero, List.getElem_cons_succ]
            go_wp2_with fail
            first | exact ⟨rfl, rfl, rfl⟩ | rfl
          apply wpT_read (i := 7) rfl hT rfl -- Op.build 62 #[(0, t45), (1, t46)]
          · intro w' hT'
            simp only [List.getElem_toArray, List.getElem_cons_zero, List.getElem_cons_succ]
            go_wp2_with (first
              | (refine load_blk rfl 30 _ rfl gb rfl 30 _ hT'.1 32 5 arrHash (by simp [ints, HI.out]) infoHash ?_)
              | (refine build_to rfl 62 _ rfl (itemC (newItem id n) (.slice none 0 0)).toArray (by rw [Array.toList_map]; exact builtItem id n HI.out) ?_)
              | fail)
            first | exact ⟨rfl, rfl, rfl⟩ | rfl
          refine wpT_act (i := 8) rfl rfl ?_ -- Op.box 62 t47
          simp only [List.getElem_toArray, List.getElem_cons_zero, List.getElem_cons_succ]
          go_wp2_with (first
            | (refine box_blk rfl 62 _ rfl _ rfl (itemC (newItem id n) (.slice none 0 0)) rfl ?_; intro g4 w4 hg4 hb4 hB4 hs4)
            | fail)
          have hT := (⟨hT.1.belowAll hB4, (hB4.cell (lt_of_cell hT.2)).trans hT.2⟩ : Blk w4 gb 30 (ints .u8 id) ∧ w4.cell? ⟨gs, 2, none⟩ = some (.slice A m c))
          first | refine ⟨rfl, rfl, hT, ?_⟩ | (show _ ∧ _; refine ⟨hT, ?_⟩) | skip
          refine wpT_act (i := 9) rfl rfl ?_ -- Op.buildSlice 56 1 #[(0, t48)]
          simp only [List.getElem_toArray, List.getElem_cons_zero, List.getElem_cons_succ]
          go_wp2_with fail
          obtain ⟨w5, hw5⟩ : ∃ w5, w5 = w4.alloc (.cells #[.pointer (some ⟨g4, 0, none⟩)] 59) := ⟨_, rfl⟩
          have hb5 : Blk w5 w4.heap.size 59 [.pointer (some ⟨g4, 0, none⟩)] := hw5 ▸ Blk.new w4 _ _
          have hB5 : Below w4.heap.size w4 w5 := hw5 ▸ (Below.refl _ _).alloc (Nat.le_refl _) _
          try rw [← hw5]
          rw [hs4] at hb5
          have hT := (⟨hT.1.belowAll hB5, (hB5.cell (lt_of_cell hT.2)).trans hT.2⟩ : Blk w5 gb 30 (ints .u8 id) ∧ w5.cell? ⟨gs, 2, none⟩ = some (.slice A m c))
          have hB35 : Below w3.heap.size w3 w5 := below_then (below_drewN (Below.refl w3.heap.size w3) 1) (Nat.le_refl _) (below_then hB4 hB4.size hB5)
          have hst5 := hst3.below hB35
          have hb45 := hb4.belowAll hB5
          have hz4 : w3.heap.size ≤ g4 := by rw [← hg4]; exact Nat.le_refl _
          have hz5 : g4 < w5.heap.size := hb45.lt
          clear hw5
          first | refine ⟨rfl, rfl, hT, ?_⟩ | (show _ ∧ _; refine ⟨hT, ?_⟩) | skip
          refine wpT_act (i := 10) rfl rfl ?_ -- Op.call { builtin append, args := #[t44, t49], argTypes := #[56, 56]
          simp only [List.getElem_toArray, List.getElem_cons_zero, List.getElem_cons_succ]
          go_wp2_with (first
            | (at_builtin; refine app_val rfl (.tmp 44) (.tmp 49) 56 rfl 59 8 undFn infoPItem (.slice A m c) vs rfl hst5.own (g4 + 1) (.pointer (some ⟨g4, 0, none⟩)) rfl hb5 rfl (by have := HSL.out; have := hm.out; omega) (by have := HSL.out; have := hm.out; omega) ?_; intro v6 w6 hv6 hg6 hl6)
            | fail)
          have hne6 := hst5.own.ne_blk hst5.blk tStore_ne
          have hT := (⟨hT.1.grown hg6 (hst5.own.ne_blk hT.1 (by decide)), hg6.cell hT.2 hne6⟩ : Blk w6 gb 30 (ints .u8 id) ∧ w6.cell? ⟨gs, 2, none⟩ = some (.slice A m c))
          have hs6 := hst5.blk.grown hg6 hne6
          have hb46 := hb45.grown hg6 (hst5.own.ne_blk hb45 (by decide))
          have hu56 := Upd.of_grown hg6
          have c26 := hT.2
          have f26 := hs6.frozen 2
          obtain ⟨A6, c6, hv6e, _, _, _⟩ := hv6.parts
          obtain ⟨n6, hn6⟩ : ∃ n6, (vs ++ [Value.pointer (some ⟨g4, 0, none⟩)]).length = n6 := ⟨_, rfl⟩
          rw [hn6] at hv6e
          subst hv6e
          first | refine ⟨rfl, rfl, hT, ?_⟩ | (show _ ∧ _; refine ⟨hT, ?_⟩) | skip
          apply wpT_read (i := 11) rfl hT rfl -- Op.nilCheck t40
          · intro w' hT'
            simp only [List.getElem_toArray, List.getElem_cons_zero, List.getElem_cons_succ]
            go_wp2_with fail
            first | exact ⟨rfl, rfl, rfl⟩ | rfl
          apply wpT_read (i := 12) rfl hT rfl -- Op.fieldAddr 58 t51 2
          · intro w' hT'
            simp only [List.getElem_toArray, List.getElem_cons_zero, List.getElem_cons_succ]
            go_wp2_with fail
            first | exact ⟨rfl, rfl, rfl⟩ | rfl
          refine wpT_tot (fun w' => True) (i := 13) rfl rfl (by kernel_rfl) ?_ -- Op.store 56 t52 t50
          simp only [List.getElem_toArray, List.getElem_cons_zero, List.getElem_cons_succ]
          go_wp2_with fail
          have hT : True := trivial
          first | refine ⟨rfl, rfl, hT, ?_⟩ | (show _ ∧ _; refine ⟨hT, ?_⟩) | skip
          refine wpT_end ?_
          try dsimp only

          go_wp2_with fail
          go_ret
          have hw35 := hB35.size
          obtain ⟨F9, F29, hst9, hsub9⟩ := hst3.snoc (w' := w6.setCell ⟨gs, 2, none⟩ (.slice A6 n6 c6)) (v' := .slice A6 n6 c6) (x := newItem id n) (g := g4) (hb46.setOther (by simp; exact fun he => by have := hst3.blk.lt; omega) _) HI.out rfl hz4 (hv6.kept' fun j hj => Below.heap_setCell _ _ _ _ (fun he => hv6.ne_blk hs6 tStore_ne (by rw [hj, he]))) (fun k hk => by
              rcases hl6 with h1 | h1
              · exact .inl (h1 ▸ hk)
              · rw [h1] at hk; injection hk with hk; exact .inr (by omega)) (by have := hs6.set 2 (.slice A6 n6 c6); exact this) (fun k hk => by
              have hk3 := hst3.star.lt k hk
              have hkg : k ≠ gs := fun he => hst3.apart.1 (he ▸ hk)
              exact (Below.heap_setCell _ _ _ _ hkg).trans ((hg6.block k (by omega) (fun he => hst3.apart.2 k he.symm hk)).trans (hB35.block k hk3)))
          have hu36 : Upd F' w3 (w6.setCell ⟨gs, 2, none⟩ (.slice A6 n6 c6)) := ((Upd.of_below hB35 F').trans hu56 (fun j _ hj => (hst3.foot j).2 (.inr (.inl hj)))).trans (Upd.setCell _ _ _) (fun j _ he => (hst3.foot j).2 (.inl he))
          exact ⟨rfl, F9, _, _, F29, hst9, hsub2.trans hsub9 hu3.size, hu3.trans hu36 (fun j hj hf => (hsub2 j hf).resolve_right (by omega))⟩
end Go.Proofs.YtinpilfnnmkpoaaDoor
