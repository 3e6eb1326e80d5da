/- A new store; how much of it is used; what a blob has. -/
import Derived.Test.YtinpilfnnmkpoaaDoorBlobC
import Derived.Test.YtinpilfnnmkpoaaDoorErrA
import Derived.BigQuiet
namespace Go.Proofs.YtinpilfnnmkpoaaDoor
open Go.RowKit Go.Cour
/-- How many bytes all are to have. -/
def used (l : List Item) : Int := (l.map (·.n)).sum
theorem used_take {l : List Item} {i : Nat} {x : Item} (h : l[i]? = some x) : used (l.take (i + 1)) = used (l.take i) + x.n := by
  have : l.take (i + 1) = l.take i ++ [x] := by rw [List.take_add_one, h]; rfl
  rw [this]; simp [used]
/-- A store that may be: so many blobs, each of such a size. -/
structure Good (st : StoreD) : Prop where
  len : st.l.length ≤ 16
  n : ∀ x ∈ st.l, 1 ≤ x.n ∧ x.n ≤ 30000
  b : ∀ x ∈ st.l, (x.b.length : Int) ≤ x.n
  q : 0 ≤ st.quota ∧ st.quota < 4611686018427387904
theorem used_bound {l : List Item} (h : ∀ x ∈ l, 1 ≤ x.n ∧ x.n ≤ 30000) : 0 ≤ used l ∧ used l ≤ 30000 * l.length := by
  induction l with
  | nil => simp [used]
  | cons x l ih =>
    have h1 := h x (by simp)
    have h2 := ih fun y hy => h y (by simp [hy])
    simp only [used, List.map_cons, List.sum_cons, List.length_cons] at h2 ⊢
    omega
theorem used_bound_take {st : StoreD} (h : Good st) (i : Nat) : 0 ≤ used (st.l.take i) ∧ used (st.l.take i) ≤ 480000 := by
  have h1 := used_bound (l := st.l.take i) (fun x hx => h.n x (List.mem_of_mem_take hx))
  have h2 := h.len
  have h3 := List.length_take_le' i st.l
  omega
set_option maxHeartbeats 1000000 in
set_option maxRecDepth 100000 in
theorem bnew_calls (quota life : Int) (w : World) :
    Calls Tryd.prog 10 #[.int .i64 quota, .int .i64 life] w fun e w' => ∃ gs F F2, e = .returned (.pointer (some ⟨gs, 0, none⟩)) ∧ StoreAt w' F gs ⟨quota, max life 1, []⟩ (.slice none 0 0) [] F2 ∧ (∀ k, F k → w.heap.size ≤ k) ∧ Below w.heap.size w w' := by
  obtain ⟨L, hL⟩ : ∃ L, Hd (max life 1 = L) := ⟨_, ⟨rfl⟩⟩
  rw [hL.out]
  have hm : (if life < 1 then (1 : Int) else life) = L := by rw [← hL.out]; omega
  go_enter Tryd.func10, Tryd.ntmps10
  go_wp2_with (first
    | (refine box_blk rfl 58 _ rfl _ rfl [.int .i64 quota, .int .i64 L, .slice none 0 0] rfl ?_; intro g w1 hg hb hB hs)
    | fail)
  go_ret
  refine ⟨g, fun k => k = g, NoF, rfl, ⟨hb, OwnV.nil _ _ _, Star.nil _ _, ⟨fun h => h, fun k hk => by cases hk⟩, fun k => ⟨fun h => .inl h, fun h => ?_⟩⟩, fun k hk => by omega, hB⟩
  rcases h with h | h | h
  · exact h
  · cases h
  · exact h.elim
set_option maxHeartbeats 1000000 in
set_option maxRecDepth 100000 in
theorem bused_calls {w : World} {F F2 : Nat → Prop} {gs : Nat} {st : StoreD} {v : Value} {vs : List Value} (h : StoreAt w F gs st v vs F2) (hg : Good st) :
    Calls Tryd.prog 14 #[.pointer (some ⟨gs, 0, none⟩)] w fun e w' => e = .returned (.int .i64 (used st.l)) ∧ ∃ q, w' = w.drewN q := by
  have H := hid h
  obtain ⟨A, c, hv, hc, _, hcell⟩ := h.own.parts
  have hsl := h.star.length
  rw [hsl] at hv hc hcell
  obtain ⟨n, hn⟩ : ∃ n, Hd (st.l.length = n) := ⟨_, ⟨rfl⟩⟩
  have hn16 : n ≤ 16 := by rw [← hn.out]; exact hg.len
  rw [hn.out] at hv hc hcell
  have HC := hid hcell
  have c2 : w.cell? ⟨gs, 2, none⟩ = some (.slice A n c) := by rw [h.blk.cell]; simp [hv]
  have HU := hid (used_bound_take hg)
  clear hcell h hsl
  go_enter Tryd.func14, Tryd.ntmps14
  go_wp2_with fail
  go_loopg [3, 11] (n + 1) (fun kq v3 v11 wr => ∃ i : Nat, i ≤ n ∧ v11 = .int .i64 i ∧ v3 = .int .i64 (used (st.l.take i)) ∧ Hd (kq + i = n + 1) ∧ Hd (∃ q, wr = w.drewN q))
  case atStart => exact ⟨0, by omega, rfl, by simp [used], hid (by omega), hid ⟨0, rfl⟩⟩
  case round =>
    obtain ⟨i, hi, rfl, rfl, hq, hw⟩ := hrel
    obtain ⟨q, rfl⟩ := hw.out
    obtain ⟨U, hU⟩ : ∃ U, Hd (used (st.l.take i) = U) := ⟨_, ⟨rfl⟩⟩
    have hUb := HU.out i
    rw [hU.out] at hUb ⊢
    by_cases hlt : i < n
    · obtain ⟨x, g, vb, hx, hu, hxl, hb, ho, _⟩ := H.out.focus i (by rw [hn.out]; exact hlt)
      obtain ⟨gv, hA, hce⟩ := HC.out i hlt
      subst hA
      rw [hu] at hce
      have hce2 : (w.drewN q).cell? ⟨gv, i, none⟩ = some (.pointer (some ⟨g, 0, none⟩)) := hce
      have c32 : (w.drewN q).cell? ⟨g, 32, none⟩ = some (.int .i64 x.n) := by
        have := itemC_at x vb hxl 0
        exact (hb.cell 32).trans this
      have hlt2 : (i : Int) < n := by omega
      have hU2 := HU.out (i + 1)
      rw [used_take hx, hU.out] at hU2
      have ha : IntKind.i64.wrap (U + x.n) = U + x.n := IntWalk.i64_in _ (by omega)
      have hx := hid hx
      clear hce ho hb hu
      go_wp2_with fail
      go_roundg (gk - 1)
      case measure => have := hq.out; omega
      case rel => exact ⟨i + 1, by omega, by go_num, by rw [used_take hx.out, hU.out], hid (by have := hq.out; omega), hid ⟨q, rfl⟩⟩
    · have hin : i = n := by omega
      subst hin
      have hall : Hd (U = used st.l) := hid (by rw [← hU.out, ← hn.out, List.take_length])
      go_wp2_with fail
      go_ret
      exact ⟨by rw [← hall.out]; rfl, q, rfl⟩
end Go.Proofs.YtinpilfnnmkpoaaDoor
