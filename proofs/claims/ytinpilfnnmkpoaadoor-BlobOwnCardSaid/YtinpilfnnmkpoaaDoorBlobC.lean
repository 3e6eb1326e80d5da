/- A blob of the store held alone; one that is named. -/
import Derived.Test.YtinpilfnnmkpoaaDoorBlobB
namespace Go.Proofs.YtinpilfnnmkpoaaDoor
open Go.RowKit Go.Cour
/-- What it stands on now lay there before, or is new. -/
def Sub (F' F : Nat → Prop) (w : World) : Prop := ∀ k, F' k → F k ∨ w.heap.size ≤ k
theorem Sub.refl (F : Nat → Prop) (w : World) : Sub F F w := fun _ h => .inl h
theorem Sub.trans {F F' F'' : Nat → Prop} {w w' : World} (h : Sub F' F w) (k : Sub F'' F' w') (hs : w.heap.size ≤ w'.heap.size) : Sub F'' F w := fun j hj => by
  rcases k j hj with h1 | h1
  · exact h j h1
  · exact .inr (by omega)
theorem blk_own_ne {w : World} {g : Nat} {t e : TypeId} {cs : List Value} {v : Value} {xs : List Int} {k : IntKind} {B : Nat} (h : Blk w g t cs) (ho : Own w B e k v xs) (hne : e ≠ t) : v.ownBlock ≠ some g := by
  rcases ho.2 with ⟨rfl, _⟩ | ⟨g', cap, cur, rfl, _, hh, r⟩
  · simp [Value.ownBlock]
  · intro he
    have : g' = g := by simpa [Value.ownBlock] using he
    subst this
    unfold Blk at h
    rw [hh] at h
    injection h with h
    injection h with _ h
    exact hne h
theorem tItem_ne : (5 : TypeId) ≠ 62 := by decide
/-- One of the blobs; whatever it becomes, the rest stands. -/
theorem StoreAt.focus2 {w : World} {F F2 : Nat → Prop} {gs : Nat} {st : StoreD} {v : Value} {vs : List Value} (h : StoreAt w F gs st v vs F2) (i : Nat) (hi : i < st.l.length) :
    ∃ (x : Item) (g : Nat) (vb : Value), st.l[i]? = some x ∧ vs[i]? = some (.pointer (some ⟨g, 0, none⟩)) ∧ x.id.length = 32 ∧ Blk w g 62 (itemC x vb) ∧ Own w 0 5 .u8 vb x.b ∧ F g ∧ (∀ k, vb.ownBlock = some k → F k) ∧ gs ≠ g ∧ v.ownBlock ≠ some g ∧ (∀ k, vb.ownBlock = some k → k ≠ gs ∧ v.ownBlock ≠ some k) ∧
      ∀ w' x' vb', Blk w' g 62 (itemC x' vb') → x'.id.length = 32 → Own w' 0 5 .u8 vb' x'.b → (∀ k, vb'.ownBlock = some k → vb.ownBlock = some k ∨ w.heap.size ≤ k) → (∀ k, F k → k ≠ g → vb.ownBlock ≠ some k → w'.heap[k]? = w.heap[k]?) →
        ∃ F' F2', StoreAt w' F' gs { st with l := st.l.set i x' } v vs F2' ∧ Sub F' F w ∧ ∀ k, F' k → F k ∨ vb'.ownBlock = some k := by
  obtain ⟨u, x, F1, F3, hv, hx, ⟨g, vb, hat⟩, hd, hF2, hlt, hback⟩ := h.star.focus i hi
  have hF1g : F1 g := (hat.foot g).2 (.inl rfl)
  have hsub : ∀ k, F1 k → F2 k := fun k hk => (hF2 k).2 (.inl hk)
  have hF : ∀ k, F2 k → F k := fun k hk => (h.foot k).2 (.inr (.inr hk))
  refine ⟨x, g, vb, hx, by rw [hv, hat.hv], hat.idl, hat.blk, hat.own, hF g (hsub g hF1g), fun k hk => hF k (hsub k ((hat.foot k).2 (.inr hk))), fun he => h.apart.1 (he ▸ hsub g hF1g), fun he => h.apart.2 g he (hsub g hF1g),
    fun k hk => ⟨fun he => h.apart.1 (he ▸ hsub k ((hat.foot k).2 (.inr hk))), fun he => h.apart.2 k he (hsub k ((hat.foot k).2 (.inr hk)))⟩, fun w' x' vb' hb' hl' ho' hsub' hk' => ?_⟩
  have hkeep : ∀ k, F k → ¬ F1 k → w'.heap[k]? = w.heap[k]? := fun k hk hn => hk' k hk (fun he => hn ((hat.foot k).2 (.inl he))) (fun he => hn ((hat.foot k).2 (.inr he)))
  have hst := hback w' (fun k => k = g ∨ vb'.ownBlock = some k) x' ⟨g, vb', hat.hv, hl', hb', ho', fun k => Iff.rfl⟩ (fun k hk hn => by
      rcases hk with rfl | hk
      · exact hd k hF1g hn
      · rcases hsub' k hk with h1 | h1
        · exact hd k ((hat.foot k).2 (.inr h1)) hn
        · have := hlt k hn; omega)
    (fun k hk => hkeep k (hF k ((hF2 k).2 (.inr hk))) (fun h1 => hd k h1 hk))
  refine ⟨fun k => k = gs ∨ v.ownBlock = some k ∨ ((k = g ∨ vb'.ownBlock = some k) ∨ F3 k), _, ⟨(hkeep gs ((h.foot gs).2 (.inl rfl)) (fun h1 => h.apart.1 (hsub _ h1))).trans h.blk, h.own.kept' (fun j hj => hkeep j ((h.foot j).2 (.inr (.inl hj))) (fun h1 => h.apart.2 j hj (hsub _ h1))), hst, ⟨fun hn => ?_, fun k hk hn => ?_⟩, fun k => Iff.rfl⟩, fun k hk => ?_, fun k hk => ?_⟩
  · rcases hn with (he | hn) | hn
    · exact h.apart.1 (he ▸ hsub g hF1g)
    · rcases hsub' gs hn with h1 | h1
      · exact h.apart.1 (hsub _ ((hat.foot gs).2 (.inr h1)))
      · have := h.blk.lt; omega
    · exact h.apart.1 ((hF2 gs).2 (.inr hn))
  · rcases hn with (he | hn) | hn
    · exact h.apart.2 k hk (he ▸ hsub g hF1g)
    · rcases hsub' k hn with h1 | h1
      · exact h.apart.2 k hk (hsub _ ((hat.foot k).2 (.inr h1)))
      · have := h.own.lt_size k hk; omega
    · exact h.apart.2 k hk ((hF2 k).2 (.inr hn))
  · rcases hk with he | hk | (he | hk) | hk
    · exact .inl ((h.foot k).2 (.inl he))
    · exact .inl ((h.foot k).2 (.inr (.inl hk)))
    · exact .inl (hF k (he ▸ hsub g hF1g))
    · rcases hsub' k hk with h1 | h1
      · exact .inl (hF k (hsub k ((hat.foot k).2 (.inr h1))))
      · exact .inr h1
    · exact .inl (hF k ((hF2 k).2 (.inr hk)))
  · rcases hk with he | hk | (he | hk) | hk
    · exact .inl ((h.foot k).2 (.inl he))
    · exact .inl ((h.foot k).2 (.inr (.inl hk)))
    · exact .inl (hF k (he ▸ hsub g hF1g))
    · exact .inr hk
    · exact .inl (hF k ((hF2 k).2 (.inr hk)))
/-- One of the blobs; whatever it becomes, the rest stands. -/
theorem StoreAt.focus {w : World} {F F2 : Nat → Prop} {gs : Nat} {st : StoreD} {v : Value} {vs : List Value} (h : StoreAt w F gs st v vs F2) (i : Nat) (hi : i < st.l.length) :
    ∃ (x : Item) (g : Nat) (vb : Value), st.l[i]? = some x ∧ vs[i]? = some (.pointer (some ⟨g, 0, none⟩)) ∧ x.id.length = 32 ∧ Blk w g 62 (itemC x vb) ∧ Own w 0 5 .u8 vb x.b ∧ F g ∧ (∀ k, vb.ownBlock = some k → F k) ∧ gs ≠ g ∧ v.ownBlock ≠ some g ∧ (∀ k, vb.ownBlock = some k → k ≠ gs ∧ v.ownBlock ≠ some k) ∧
      ∀ w' x' vb', Blk w' g 62 (itemC x' vb') → x'.id.length = 32 → Own w' 0 5 .u8 vb' x'.b → (∀ k, vb'.ownBlock = some k → vb.ownBlock = some k ∨ w.heap.size ≤ k) → (∀ k, F k → k ≠ g → vb.ownBlock ≠ some k → w'.heap[k]? = w.heap[k]?) →
        ∃ F' F2', StoreAt w' F' gs { st with l := st.l.set i x' } v vs F2' ∧ Sub F' F w := by
  obtain ⟨x, g, vb, h1, h2, h3, h4, h5, h6, h7, h8, h9, h10, hb⟩ := h.focus2 i hi
  exact ⟨x, g, vb, h1, h2, h3, h4, h5, h6, h7, h8, h9, h10, fun w' x' vb' k1 k2 k3 k4 k5 => by
    obtain ⟨F', F2', k6, k7, _⟩ := hb w' x' vb' k1 k2 k3 k4 k5
    exact ⟨F', F2', k6, k7⟩⟩
theorem itemC_age (x : Item) (vb : Value) (h : x.id.length = 32) (a : Int) : (itemC x vb).set 35 (.int .i64 a) = itemC { x with age := a } vb := by
  have hl : (ints .u8 x.id).length = 32 := by simp [h]
  simp only [itemC]
  rw [List.set_append_right _ _ (by omega), hl]
  rfl
theorem touch_some {id : List Int} {l : List Item} {x : Item} (h : l[posOf id l]? = some x) : touch id l = l.set (posOf id l) { x with age := 0 } := by
  unfold touch; rw [h]
theorem touch_none {id : List Int} {l : List Item} (h : ¬ posOf id l < l.length) : touch id l = l := by
  unfold touch; rw [List.getElem?_eq_none (by omega)]
theorem infoHash2 : True := trivial
set_option maxHeartbeats 1000000 in
set_option maxRecDepth 100000 in
theorem named_calls {w : World} {F F2 : Nat → Prop} {gs : Nat} {st : StoreD} {v : Value} {vs : List Value} (id : List Int) (h : StoreAt w F gs st v vs F2) (hid' : id.length = 32) (hlen : st.l.length ≤ 1000000) :
    Calls Tryd.prog 27 #[.pointer (some ⟨gs, 0, none⟩), .agg (ints .u8 id).toArray] w fun e w' => e = .returned (vs.getD (posOf id st.l) (.pointer none)) ∧ (∃ F' F2', StoreAt w' F' gs { st with l := touch id st.l } v vs F2' ∧ Sub F' F w) ∧ Upd F w w' := by
  have HI := hid hid'
  have H := hid h
  have HLEN := hid hlen
  clear hid' hlen
  by_cases hk : posOf id st.l < st.l.length
  · obtain ⟨x, g, vb, hx, hu, hxl, hb, ho, hFg, hFb, hgs, hvg, hvb, hback⟩ := h.focus _ hk
    have hr : vs.getD (posOf id st.l) (.pointer none) = .pointer (some ⟨g, 0, none⟩) := by rw [List.getD_eq_getElem?_getD, hu]; rfl
    have hr := hid hr
    rw [hr.out]
    have HT := hid (touch_some hx)
    rw [HT.out]
    have HB := hid hback
    have HO := hid ho
    have HG := hid hgs
    have HF := hid hFg
    have HVB := hid hFb
    have c35 : w.cell? ⟨g, 35, none⟩ = some (.int .i64 x.age) := by rw [hb.cell]; exact itemC_at x vb hxl 3
    have f35 := hb.frozen 35
    clear hback ho hgs hvg hvb hu hx hk h
    go_enter Tryd.func27, Tryd.ntmps27
    go_wp2_with (first
      | (refine box_blk rfl 30 _ rfl _ rfl (ints .u8 id) rfl ?_; intro gb w1 hgb hbb hB1 hs1
         clear hgb hs1)
      | (refine load_blk rfl 30 _ rfl gb rfl 30 _ hbb 32 5 arrHash (by simp [ints, HI.out]) infoHash ?_)
      | (go_at_call 35; refine (at_calls id (H.out.below hB1) HI.out HLEN.out).mono ?_
         rintro e w2 ⟨he, hB2⟩
         rw [hr.out] at he
         subst he
         have hB := below_then hB1 hB1.size hB2
         have hb2 := hb.belowAll hB
         have c35' : w2.cell? ⟨g, 35, none⟩ = some (.int .i64 x.age) := (hB.cell (lt_of_cell c35)).trans c35
         have f35' := hb2.frozen 35
         clear hB1 hB2 hbb)
      | fail)
    go_ret
    refine ⟨rfl, HB.out _ { x with age := 0 } vb ?_ hxl ?_ (fun k hk => .inl hk) (fun k hk hkg hkb => ?_), ?_⟩
    · rw [← itemC_age x vb hxl]; exact hb2.set 35 _
    · exact (HO.out.below hB).setOther (by simp; exact fun he => blk_own_ne hb HO.out tItem_ne he.symm) _
    · rw [Below.heap_setCell _ _ _ _ hkg]; exact hB.block k (H.out.lt k hk)
    · exact (Upd.of_below hB F).trans ((Upd.setCell _ _ _).mono (fun j _ hj => hj)) (fun j _ hj => by subst hj; exact HF.out)
  · have HT := hid (touch_none (id := id) (l := st.l) hk)
    rw [HT.out]
    have hsl := h.star.length
    have hr : vs.getD (posOf id st.l) (.pointer none) = .pointer none := by rw [List.getD_eq_getElem?_getD, List.getElem?_eq_none (by omega)]; rfl
    have hr := hid hr
    rw [hr.out]
    clear hk hsl h
    go_enter Tryd.func27, Tryd.ntmps27
    go_wp2_with (first
      | (refine box_blk rfl 30 _ rfl _ rfl (ints .u8 id) rfl ?_; intro gb w1 hgb hbb hB1 hs1
         clear hgb hs1)
      | (refine load_blk rfl 30 _ rfl gb rfl 30 _ hbb 32 5 arrHash (by simp [ints, HI.out]) infoHash ?_)
      | (go_at_call 35; refine (at_calls id (H.out.below hB1) HI.out HLEN.out).mono ?_
         rintro e w2 ⟨he, hB2⟩
         rw [hr.out] at he
         subst he
         have hB := below_then hB1 hB1.size hB2
         clear hB1 hB2 hbb)
      | fail)
    go_ret
    exact ⟨rfl, ⟨F, F2, H.out.below hB, Sub.refl _ _⟩, Upd.of_below hB F⟩
end Go.Proofs.YtinpilfnnmkpoaaDoor
