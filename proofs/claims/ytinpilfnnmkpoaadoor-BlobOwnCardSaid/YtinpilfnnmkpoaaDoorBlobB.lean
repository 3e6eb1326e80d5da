/- A blob is found by its digest; one that is named is young again. -/
import Derived.Test.YtinpilfnnmkpoaaDoorBlobA
namespace Go.Proofs.YtinpilfnnmkpoaaDoor
open Go.RowKit Go.Cour
def isId (id : List Int) (x : Item) : Bool := decide (x.id = id)
/-- Where a blob stands; behind all of them: nowhere. -/
def posOf (id : List Int) (l : List Item) : Nat := l.findIdx (isId id)
theorem posOf_le (id : List Int) (l : List Item) : posOf id l ≤ l.length := List.findIdx_le_length
theorem posOf_ne {id : List Int} {l : List Item} {i : Nat} {x : Item} (h : i < posOf id l) (hx : l[i]? = some x) : x.id ≠ id := by
  have hl := (List.getElem?_eq_some_iff.1 hx).1
  have := List.not_of_lt_findIdx h
  rw [List.getElem?_eq_getElem hl] at hx
  injection hx with hx
  rw [hx] at this
  simpa [isId] using this
theorem posOf_eq {id : List Int} {l : List Item} {x : Item} (hx : l[posOf id l]? = some x) : x.id = id := by
  have hl := (List.getElem?_eq_some_iff.1 hx).1
  have := List.findIdx_getElem (p := isId id) (xs := l) (w := hl)
  rw [List.getElem?_eq_getElem hl] at hx
  injection hx with hx
  have h2 : isId id x = true := by rw [← hx]; exact this
  simpa [isId] using h2
/-- The blobs behind one's being named. -/
def touch (id : List Int) (l : List Item) : List Item := match l[posOf id l]? with
  | some x => l.set (posOf id l) { x with age := 0 }
  | none => l
theorem undFn : Tryd.prog.underlying 56 = some (.slice 59) := by kernel_rfl
set_option maxHeartbeats 1000000 in
set_option maxRecDepth 100000 in
theorem idx_calls {w : World} {v : Value} {vs : List Value} {F2 : Nat → Prop} {l : List Item} {gb : Nat} (id : List Int) (ho : OwnV w 0 59 v vs) (hs : Star itemH w F2 vs l) (hb : Blk w gb 30 (ints .u8 id)) (hid' : id.length = 32) (hlen : l.length ≤ 1000000) :
    Calls Tryd.prog 40 #[v, .func (.func 44) #[] #[.pointer (some ⟨gb, 0, none⟩)]] w fun e w' => e = .returned (.int .i64 (if posOf id l < l.length then (posOf id l : Int) else -1)) ∧ ∃ q, w' = w.drewN q := by
  have HI := hid hid'
  obtain ⟨A, c, hv, hc, _, hcell⟩ := ho.parts
  rw [hs.length] at hv hc hcell
  obtain ⟨n, hn⟩ : ∃ n, Hd (l.length = n) := ⟨_, ⟨rfl⟩⟩
  obtain ⟨K, hK⟩ : ∃ K, Hd (posOf id l = K) := ⟨_, ⟨rfl⟩⟩
  have hKn : K ≤ n := by rw [← hK.out, ← hn.out]; exact posOf_le _ _
  rw [hn.out] at hv hc hcell hlen
  rw [hn.out, hK.out]
  obtain ⟨R, hR⟩ : ∃ R, Hd ((if K < n then (K : Int) else -1) = R) := ⟨_, ⟨rfl⟩⟩
  rw [hR.out]
  subst hv
  have HC := hid hcell
  have HS := hid hs
  clear hcell hs hid' ho
  go_enter Tryd.func40, Tryd.ntmps40
  go_wp2_with fail
  go_loopg [8] (n + 1) (fun kq v8 wr => ∃ i : Nat, i ≤ K ∧ v8 = .int .i64 i ∧ Hd (kq + i = n + 1) ∧ Hd (∃ q, wr = w.drewN q))
  case atStart => exact ⟨0, by omega, rfl, hid (by omega), hid ⟨0, rfl⟩⟩
  case round =>
    obtain ⟨i, hi, rfl, hq, hw⟩ := hrel
    obtain ⟨q, rfl⟩ := hw.out
    by_cases hlt : i < n
    · obtain ⟨vi, x, F1, F2', hvi, hx, ⟨g, vb, hat⟩, _, _, _, _⟩ := HS.out.focus i (by rw [hn.out]; exact hlt)
      obtain ⟨gv, hA, hce⟩ := HC.out i hlt
      subst hA
      rw [hvi, hat.hv] at hce
      have hce2 : (w.drewN q).cell? ⟨gv, i, none⟩ = some (.pointer (some ⟨g, 0, none⟩)) := hce
      have hat2 : ItemAt (w.drewN q) F1 vi x g vb := ⟨hat.hv, hat.idl, hat.blk.drewN q, hat.own.drewN q, hat.foot⟩
      have hb2 := hb.drewN q
      have hx := hid hx
      have hlt2 : (i : Int) < n := by omega
      clear hce hat
      by_cases hik : i = K
      · have he := hid (decide_eq_true (posOf_eq (id := id) (l := l) (x := x) (by rw [hK.out, ← hik]; exact hx.out)))
        have hKn2 := hid (show K < n by omega)
        subst hik
        go_wp2_with (first
          | (go_at_call 44; refine (at1_calls id hat2 hb2 HI.out).mono ?_; rintro e w2 ⟨he2, q2, hw2⟩; rw [he.out] at he2; subst he2)
          | fail)
        go_ret
        have hR2 := hR.out; rw [if_pos hKn2.out] at hR2; subst hR2; exact ⟨rfl, q + q2, rfl⟩
      · have he := hid (decide_eq_false (posOf_ne (id := id) (l := l) (x := x) (by rw [hK.out]; omega) hx.out))
        have hik := hid hik
        go_wp2_with (first
          | (go_at_call 44; refine (at1_calls id hat2 hb2 HI.out).mono ?_; rintro e w2 ⟨he2, q2, hw2⟩; rw [he.out] at he2; subst he2)
          | fail)
        go_roundg (gk - 1)
        case measure => have := hq.out; omega
        case rel => exact ⟨i + 1, by have := hik.out; omega, by go_num, hid (by have := hq.out; omega), hid ⟨q + q2, rfl⟩⟩
    · have hin : i = n := by omega
      have hKn2 := hid (show ¬ K < n by omega)
      subst hin
      go_wp2_with fail
      go_ret
      have hR2 := hR.out; rw [if_neg hKn2.out] at hR2; subst hR2; exact ⟨rfl, q, rfl⟩
theorem infoStore : True := trivial
set_option maxHeartbeats 1000000 in
set_option maxRecDepth 100000 in
theorem at_calls {w : World} {F F2 : Nat → Prop} {gs : Nat} {st : StoreD} {v : Value} {vs : List Value} (id : List Int) (h : StoreAt w F gs st v vs F2) (hid' : id.length = 32) (hlen : st.l.length ≤ 1000000) :
    Calls Tryd.prog 35 #[.pointer (some ⟨gs, 0, none⟩), .agg (ints .u8 id).toArray] w fun e w' => e = .returned (vs.getD (posOf id st.l) (.pointer none)) ∧ Below w.heap.size w w' := by
  have HI := hid hid'
  have H := hid h
  obtain ⟨A, c, hv, hc, _, hcell⟩ := h.own.parts
  have hsl := h.star.length
  rw [hsl] at hv hc hcell
  obtain ⟨n, hn⟩ : ∃ n, Hd (st.l.length = n) := ⟨_, ⟨rfl⟩⟩
  obtain ⟨K, hK⟩ : ∃ K, Hd (posOf id st.l = K) := ⟨_, ⟨rfl⟩⟩
  have hKn : K ≤ n := by rw [← hK.out, ← hn.out]; exact posOf_le _ _
  rw [hn.out] at hv hc hcell hlen hsl
  rw [hK.out]
  have HC := hid hcell
  have HV := hid hv
  have HSL := hid hsl
  have c2 : w.cell? ⟨gs, 2, none⟩ = some (.slice A n c) := by rw [h.blk.cell]; simp [hv]
  clear hcell h hid' hv hsl
  by_cases hk : K < n
  · obtain ⟨g, hA, hce⟩ := HC.out K hk
    subst hA
    obtain ⟨u, hu⟩ : ∃ u, vs[K]? = some u := ⟨_, List.getElem?_eq_getElem (by rw [HSL.out]; exact hk)⟩
    rw [hu] at hce
    have hr : vs.getD K (.pointer none) = u := by rw [List.getD_eq_getElem?_getD, hu]; rfl
    rw [hr]
    have hk2 : (K : Int) < n := by omega
    have hk3 : ¬ (K : Int) < 0 := by omega
    have hif := hid (show (if K < n then (K : Int) else -1) = K by rw [if_pos hk])
    go_enter Tryd.func35, Tryd.ntmps35
    go_wp2_with (first
      | (refine box_blk rfl 30 _ rfl _ rfl (ints .u8 id) rfl ?_; intro gb w1 hgb hbb hB1 hs1
         have c2' : w1.cell? ⟨gs, 2, none⟩ = some (.slice (some ⟨g, 0, none⟩) n c) := (hB1.cell (lt_of_cell c2)).trans c2
         have hce' : w1.cell? ⟨g, K, none⟩ = some u := (hB1.cell (lt_of_cell hce)).trans hce
         clear hgb hs1)
      | (go_at_call 40; refine (idx_calls (v := .slice (some ⟨g, 0, none⟩) n c) id (HV.out ▸ (H.out.below hB1).own) (H.out.below hB1).star hbb HI.out (by rw [hn.out]; exact hlen)).mono ?_
         rintro e w2 ⟨he, q, hw2⟩
         rw [hK.out, hn.out, hif.out] at he
         subst he
         have c2'' : w2.cell? ⟨gs, 2, none⟩ = some (.slice (some ⟨g, 0, none⟩) n c) := by rw [hw2]; exact c2'
         have hce'' : w2.cell? ⟨g, K, none⟩ = some u := by rw [hw2]; exact hce'
         have hB2 : Below w.heap.size w w2 := by rw [hw2]; exact below_drewN hB1 q
         clear hw2)
      | fail)
    go_ret
    exact ⟨rfl, hB2⟩
  · have hr : vs.getD K (.pointer none) = .pointer none := by rw [List.getD_eq_getElem?_getD, List.getElem?_eq_none (by rw [HSL.out]; omega)]; rfl
    rw [hr]
    have hif := hid (show (if K < n then (K : Int) else -1) = -1 by rw [if_neg hk])
    go_enter Tryd.func35, Tryd.ntmps35
    go_wp2_with (first
      | (refine box_blk rfl 30 _ rfl _ rfl (ints .u8 id) rfl ?_; intro gb w1 hgb hbb hB1 hs1
         have c2' : w1.cell? ⟨gs, 2, none⟩ = some (.slice A n c) := (hB1.cell (lt_of_cell c2)).trans c2
         clear hgb hs1)
      | (go_at_call 40; refine (idx_calls (v := .slice A n c) id (HV.out ▸ (H.out.below hB1).own) (H.out.below hB1).star hbb HI.out (by rw [hn.out]; exact hlen)).mono ?_
         rintro e w2 ⟨he, q, hw2⟩
         rw [hK.out, hn.out, hif.out] at he
         subst he
         have hB2 : Below w.heap.size w w2 := by rw [hw2]; exact below_drewN hB1 q
         clear hw2)
      | fail)
    go_ret
    exact ⟨rfl, hB2⟩
end Go.Proofs.YtinpilfnnmkpoaaDoor
