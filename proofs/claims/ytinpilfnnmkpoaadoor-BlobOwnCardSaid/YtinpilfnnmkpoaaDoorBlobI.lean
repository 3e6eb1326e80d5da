/- The store's All. -/
import Derived.Test.YtinpilfnnmkpoaaDoorBlobF
import Derived.Great.BuildSlice
import Derived.Great.FillDense
namespace Go.Cour
open Go.RowKit
/-- The slice value v, of rows of s cells each, is one's own. -/
def OwnA (w : World) (e : TypeId) (s : Nat) (v : Value) (rows : List (List Value)) : Prop := w.ownsRow 0 e s v rows.length rows.flatten ∧ ∀ r ∈ rows, r.length = s
theorem OwnA.nil (w : World) (e : TypeId) (s : Nat) : OwnA w e s (.slice none 0 0) [] := ⟨World.ownsRow_nil w 0 e s, fun _ h => by cases h⟩
theorem OwnA.below {w w' : World} {e : TypeId} {s : Nat} {v : Value} {rows : List (List Value)} (h : OwnA w e s v rows) (hb : Below w.heap.size w w') : OwnA w' e s v rows := by
  refine ⟨⟨h.1.1, ?_⟩, h.2⟩
  rcases h.1.2 with h2 | ⟨g, cap, cur, rfl, hg, hh, r⟩
  · exact .inl h2
  · exact .inr ⟨g, cap, cur, rfl, hg, (hb.block g (Array.getElem?_eq_some_iff.1 hh).1).trans hh, r⟩
theorem OwnA.kept {w w' : World} {e : TypeId} {s : Nat} {v : Value} {rows : List (List Value)} (h : OwnA w e s v rows) (hk : ∀ j, v.ownBlock = some j → w'.heap[j]? = w.heap[j]?) : OwnA w' e s v rows := by
  refine ⟨⟨h.1.1, ?_⟩, h.2⟩
  rcases h.1.2 with h2 | ⟨g, cap, cur, rfl, hg, hh, r⟩
  · exact .inl h2
  · exact .inr ⟨g, cap, cur, rfl, hg, (hk g rfl).trans hh, r⟩
theorem OwnA.lt_size {w : World} {e : TypeId} {s : Nat} {v : Value} {rows : List (List Value)} (h : OwnA w e s v rows) (j : Nat) (hj : v.ownBlock = some j) : j < w.heap.size := by
  rcases h.1.2 with ⟨rfl, _⟩ | ⟨g, cap, cur, rfl, hg, hh, r⟩
  · simp [Value.ownBlock] at hj
  · have : g = j := by simpa [Value.ownBlock] using hj
    subst this
    exact (Array.getElem?_eq_some_iff.1 hh).1
theorem flatten_get {s : Nat} : ∀ {rows : List (List Value)}, (∀ r ∈ rows, r.length = s) → ∀ (i j : Nat) (r : List Value), rows[i]? = some r → j < s → rows.flatten[i * s + j]? = r[j]?
  | [], _, i, j, r, h, _ => by simp at h
  | r0 :: rows, hl, 0, j, r, h, hj => by
    simp only [List.getElem?_cons_zero, Option.some.injEq] at h
    subst h
    have := hl r0 (by simp)
    rw [List.flatten_cons, Nat.zero_mul, Nat.zero_add, List.getElem?_append_left (by omega)]
  | r0 :: rows, hl, i + 1, j, r, h, hj => by
    have h0 := hl r0 (by simp)
    have ih := flatten_get (s := s) (rows := rows) (fun r hr => hl r (by simp [hr])) i j r (by simpa using h) hj
    rw [List.flatten_cons, Nat.succ_mul, List.getElem?_append_right (by omega), ← ih]
    congr 1; omega
/-- Where its rows lie. -/
theorem OwnA.parts {w : World} {e : TypeId} {s : Nat} {v : Value} {rows : List (List Value)} (h : OwnA w e s v rows) : ∃ A c, v = .slice A rows.length c ∧ rows.length ≤ c ∧
    ∀ i r, rows[i]? = some r → ∃ g, A = some ⟨g, 0, none⟩ ∧ ∀ j u, r[j]? = some u → w.cell? ⟨g, i * s + j, none⟩ = some u := by
  obtain ⟨⟨h1, h2⟩, h3⟩ := h
  rcases h2 with ⟨rfl, h2⟩ | ⟨g, cap, cur, rfl, hg, hh, hn, hm, hs, ht⟩
  · exact ⟨none, 0, by rw [h2], by omega, fun i r hr => by have := (List.getElem?_eq_some_iff.1 hr).1; omega⟩
  · refine ⟨_, cap, rfl, hn, fun i r hr => ⟨g, rfl, fun j u hu => ?_⟩⟩
    have hl := (List.getElem?_eq_some_iff.1 hr).1
    have hrs := h3 r (List.mem_of_getElem? hr)
    have hj : j < s := by have := (List.getElem?_eq_some_iff.1 hu).1; omega
    have hc : w.cell? ⟨g, i * s + j, none⟩ = cur[i * s + j]? := cell_of_row w g _ cur e (0, 0) hh
    have h4 := flatten_get h3 i j r hr hj
    rw [← ht, List.getElem?_take, if_pos (by
      have : (i + 1) * s ≤ rows.length * s := Nat.mul_le_mul_right _ hl
      rw [Nat.succ_mul] at this; omega)] at h4
    rw [hc, ← Array.getElem?_toList, h4, hu]
section
variable {P : Program} {w : World} {ops : Array Oper} {rest : List Oper} {o : Oper} {a : Act} {Q : Exit → Act → World → Prop}
/-- A slice literal of one value of s cells. -/
theorem literal_agg (hw : Region.wanted o (yielded ops a.tmps) = true) (t e : TypeId) (x : Operand) (ho : o.op = .buildSlice t 1 #[(0, x)]) (cs : List Value) (s : Nat) (hx : (a.eval x).cells = cs.toArray) (hl : cs.length = s)
    (ht : P.underlying t = some (.slice e)) (hsz : (P.info? e).map (·.size) = some s) (hz : ((P.info? e).bind (·.zero)).isSome = true) (hpos : 0 < s) (hsmall : s ≤ 2 ^ 24)
    (h : ∀ (g : Nat) (w' : World), w.heap.size = g → Blk w' g e cs → Below w.heap.size w w' → w'.heap.size = g + 1 → wpList P ops Q rest (a.put o.dst (.slice (some ⟨g, 0, none⟩) 1 1)) w') :
    wpList P ops Q (o :: rest) a w := by
  have h2 := h w.heap.size _ rfl (Blk.new w e cs) ((Below.refl _ _).alloc (Nat.le_refl _) _) (by simp)
  cases hie : P.info? e with
  | none => simp [hie] at hsz
  | some ie =>
    simp only [hie, Option.map_some, Option.some.injEq, Option.bind_some] at hsz hz
    obtain ⟨z, hzz⟩ := Option.isSome_iff_exists.1 hz
    refine wpList_step fun K hK => ?_
    rw [if_pos hw]
    refine wp_buildSlice t e 1 _ ho cs.toArray ie z ht hie hzz (by rw [hsz]; omega) (by rw [hsz]; omega) ?_ (hK _ _ h2)
    rw [hsz]
    obtain ⟨r, hr, hs2, hk⟩ := Great.fill_dense hpos [a.eval x] 0 ((Array.range (1 * s)).map (z.cells[· % z.cells.size]!)) (fun v hv => by rw [List.mem_singleton.1 hv, hx]; simpa using hl) (by simp)
    have he : (#[(0, x)].map fun (i, x) => (i, a.eval x)).toList = (([a.eval x] : List Value).zipIdx 0).map fun x => (x.2, x.1) := by simp
    rw [he, hr]
    congr 1
    apply Array.ext_getElem?
    intro k
    rw [hk k]
    by_cases hlt : k < s
    · rw [if_pos (by simp; omega)]
      have h1 : k / s = 0 := Nat.div_eq_of_lt hlt
      have h3 : k % s = k := Nat.mod_eq_of_lt hlt
      simp [h1, h3, hx]
    · rw [if_neg (by simp; omega)]
      simp [List.getElem?_eq_none (show cs.length ≤ k by omega)]
      omega
/-- One row more. -/
theorem app_agg (hw : Region.wanted o (yielded ops a.tmps) = true) (s x : Operand) (t : TypeId)
    (ho : o.op = .call { callee := .builtin .append, args := #[s, x], argTypes := #[t, t] })
    (e : TypeId) (n bytes : Nat) (ht : P.underlying t = some (.slice e)) (hi : (P.info? e).map (fun i => (i.zero.map (·.cells.size), i.size, i.bytes)) = some (some n, n, bytes)) (hn : 0 < n)
    (v : Value) (rows : List (List Value)) (hs : a.eval s = v) (hown : OwnA w e n v rows)
    (g : Nat) (r : List Value) (hx : a.eval x = .slice (some ⟨g, 0, none⟩) 1 1) (hg : Blk w g e r) (hl : r.length = n) (h1 : ∀ u ∈ r, u.oneCell' = true)
    (hbytes : (rows.length + 1) * bytes ≤ 140737488355328) (h63 : rows.length + 1 ≤ 140737488355328)
    (h : ∀ v' w', OwnA w' e n v' (rows ++ [r]) → w.grownBy w' v.ownBlock → Lies v v' w → wpList P ops Q rest (a.put o.dst v') w') :
    wpList P ops Q (o :: rest) a w := by
  cases hie : P.info? e with
  | none => simp [hie] at hi
  | some i =>
    cases hz : i.zero with
    | none => simp [hie, hz] at hi
    | some z =>
      simp [hie, hz] at hi
      refine app_row hw s x t ho e i z n bytes ht hie hz hi.2.1 hi.2.2 hi.1 hn v rows.length rows.flatten hs hown.1 ⟨g, 0, none⟩ 1 1 r hx (by omega) ?_ h1 (by unfold maxLen; omega) hbytes ?_
      · intro j u' hj
        rw [add_lit, Nat.zero_add, hg.cell]
        exact hj
      · intro v' w' h2 h3 h4
        refine h v' w' ⟨?_, fun q hq => ?_⟩ h3 h4
        · rw [List.length_append, List.flatten_append]
          simpa using h2
        · rcases List.mem_append.1 hq with hq | hq
          · exact hown.2 q hq
          · rw [List.mem_singleton.1 hq]; exact hl
end
end Go.Cour
namespace Go.Proofs.YtinpilfnnmkpoaaDoor
open Go.RowKit Go.Cour
theorem undLHash : Tryd.prog.underlying 37 = some (.slice 30) := by kernel_rfl
theorem zeroHash : ((Tryd.prog.info? 30).bind (·.zero)).isSome = true := by kernel_rfl
theorem infoHash3 : (Tryd.prog.info? 30).map (fun i => (i.zero.map (·.cells.size), i.size, i.bytes)) = some (some 32, 32, 32) := by kernel_rfl
def idRows (l : List Item) : List (List Value) := l.map fun x => ints .u8 x.id
theorem OwnV.ne_ownA {w : World} {e e' : TypeId} {s B : Nat} {v u : Value} {cs : List Value} {rows : List (List Value)} (h : OwnV w B e u cs) (h' : OwnA w e' s v rows) (hne : e ≠ e') (k : Nat) (hk : u.ownBlock = some k) : v.ownBlock ≠ some k := fun hv => by
  rcases h.2 with ⟨rfl, _⟩ | ⟨g, cap, cur, rfl, _, hh, r⟩
  · simp [Value.ownBlock] at hk
  · rcases h'.1.2 with ⟨rfl, _⟩ | ⟨g', cap', cur', rfl, _, hh', r'⟩
    · simp [Value.ownBlock] at hv
    · have e1 : g = k := by simpa [Value.ownBlock] using hk
      have e2 : g' = k := by simpa [Value.ownBlock] using hv
      subst e1 e2
      rw [hh] at hh'
      injection hh' with hh'
      injection hh' with _ hh'
      exact hne hh'
set_option maxHeartbeats 1000000 in
set_option maxRecDepth 100000 in
theorem ball_calls {w : World} {F F2 : Nat → Prop} {gs : Nat} {st : StoreD} {v : Value} {vs : List Value} (h : StoreAt w F gs st v vs F2) (hlen : st.l.length ≤ 1000000) :
    Calls Tryd.prog 17 #[.pointer (some ⟨gs, 0, none⟩)] w fun e w' => ∃ v', e = .returned v' ∧ OwnA w' 30 32 v' (idRows st.l) ∧ (∀ k, v'.ownBlock = some k → w.heap.size ≤ k) ∧ Below w.heap.size w w' := by
  have H := hid h
  obtain ⟨A, c, hv, hc, hA, hcell⟩ := h.own.parts
  have hsl := h.star.length
  rw [hsl] at hv hc hcell
  obtain ⟨n, hn⟩ : ∃ n, Hd (st.l.length = n) := ⟨_, ⟨rfl⟩⟩
  rw [hn.out] at hv hc hcell hlen hsl
  have HC := hid hcell
  have c2 : w.cell? ⟨gs, 2, none⟩ = some (.slice A n c) := by rw [h.blk.cell]; simp [hv]
  clear hcell h
  go_enter Tryd.func17, Tryd.ntmps17
  go_wp2_with fail
  go_loopg [3, 11] (n + 1) (fun kq v3 v11 wr => ∃ i : Nat, i ≤ n ∧ v11 = .int .i64 i ∧ Hd (kq + i = n + 1) ∧ Hd (OwnA wr 30 32 v3 (idRows (st.l.take i)) ∧ (∀ k, v3.ownBlock = some k → w.heap.size ≤ k) ∧ Below w.heap.size w wr))
  case atStart => exact ⟨0, by omega, rfl, hid (by omega), hid ⟨by simp [idRows]; exact OwnA.nil _ _ _, fun k hk => by simp [Value.ownBlock] at hk, Below.refl _ _⟩⟩
  case round =>
    obtain ⟨i, hi, rfl, hq, hst⟩ := hrel
    by_cases hlt : i < n
    · have hw := hst.out.2.2
      have H2 := hid (H.out.below hw)
      obtain ⟨x, g, vb, hx, hu, hxl, hb, ho, _⟩ := H2.out.focus i (by rw [hn.out]; exact hlt)
      obtain ⟨gv, hA2, hce⟩ := HC.out i hlt
      subst hA2
      rw [hu] at hce
      have hce2 : wr.cell? ⟨gv, i, none⟩ = some (.pointer (some ⟨g, 0, none⟩)) := (hw.cell (lt_of_cell hce)).trans hce
      have hlt2 : (i : Int) < n := by omega
      have HX := hid hx
      have hrow : Hd (idRows (st.l.take i) ++ [ints .u8 x.id] = idRows (st.l.take (i + 1))) := hid (by rw [List.take_add_one, hx]; simp [idRows])
      have hll : Hd ((idRows (st.l.take i)).length = i) := hid (by rw [idRows, List.length_map, List.length_take, hn.out]; omega)
      have hoa := hid hst.out.1
      have hob := hid hst.out.2.1
      have HW := hid hw
      obtain ⟨rows, hrows⟩ : ∃ rows, Hd (idRows (st.l.take i) = rows) := ⟨_, ⟨rfl⟩⟩
      rw [hrows.out] at hoa hrow hll
      clear hce ho hu hx hw hst
      go_wp2_with (first
        | (refine load_in rfl 30 _ rfl g 0 rfl (ints .u8 x.id) (fun j v hv => by rw [hb.cell, Nat.zero_add]; exact itemC_id _ _ j v hv) 32 5 arrHash (by simp [ints, hxl]) infoHash ?_)
        | (refine literal_agg rfl 37 30 _ rfl (ints .u8 x.id) 32 rfl (by simp [hxl]) undLHash infoHash zeroHash (by omega) (by omega) ?_; intro g5 w5 hg5 hb5 hB5 hs5)
        | (at_builtin; refine app_agg rfl (.tmp 15) (.tmp 20) 37 rfl 30 32 32 undLHash infoHash3 (by omega) _ rows rfl (hoa.out.below hB5) g5 (ints .u8 x.id) rfl hb5 (by simp [hxl]) (fun u hu => by obtain ⟨y, _, rfl⟩ := List.mem_map.1 hu; rfl) (by rw [hll.out]; omega) (by rw [hll.out]; omega) ?_; intro v6 w6 hv6 hg6 hl6; rw [hrow.out] at hv6)
        | fail)
      go_roundg (gk - 1)
      case measure => have := hq.out; omega
      case rel =>
        have hB5' := below_then HW.out HW.out.size hB5
        refine ⟨i + 1, by omega, by go_num, hid (by have := hq.out; omega), hid ⟨hv6, fun k hk => ?_, hB5'.grown hg6 hB5'.size (fun j hj => hob.out j hj)⟩⟩
        rcases hl6 with h1 | h1
        · exact hob.out k (h1 ▸ hk)
        · rw [h1] at hk; injection hk with hk; have := hB5'.size; omega
    · have hin : i = n := by omega
      subst hin
      have hlt2 : ¬ (i : Int) < i := by omega
      have hfin := hid hst.out
      rw [← hn.out, List.take_length] at hfin
      clear hst
      go_wp2_with fail
      go_ret
      exact ⟨_, rfl, hfin.out.1, hfin.out.2.1, hfin.out.2.2⟩
end Go.Proofs.YtinpilfnnmkpoaaDoor
