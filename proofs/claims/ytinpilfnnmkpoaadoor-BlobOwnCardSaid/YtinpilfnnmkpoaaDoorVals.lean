/- Own rows of values, each of one cell; own rows of own rows of numbers. -/
import Derived.Test.YtinpilfnnmkpoaaDoorArr
namespace Go.Cour
open Go.RowKit
/-- The slice value v, of the values cs, is the call's own. -/
def OwnV (w : World) (base : Nat) (e : TypeId) (v : Value) (cs : List Value) : Prop := w.ownsRow base e 1 v cs.length cs
section
variable {w w1 : World} {base : Nat} {e e' : TypeId} {k : IntKind} {v v' : Value} {cs : List Value} {xs : List Int}
theorem OwnV.nil (w : World) (base : Nat) (e : TypeId) : OwnV w base e (.slice none 0 0) [] := ⟨by simp, .inl ⟨rfl, rfl⟩⟩
theorem OwnV.below (h : OwnV w base e v cs) (hb : Below w.heap.size w w1) : OwnV w1 base e v cs := by
  obtain ⟨h1, h2⟩ := h
  refine ⟨h1, ?_⟩
  rcases h2 with h2 | ⟨g, cap, cur, rfl, hg, hh, r⟩
  · exact .inl h2
  · exact .inr ⟨g, cap, cur, rfl, hg, (hb.block g (Array.getElem?_eq_some_iff.1 hh).1).trans hh, r⟩
theorem OwnV.drew (h : OwnV w base e v cs) : OwnV w.drew base e v cs := h
theorem OwnV.drewN (h : OwnV w base e v cs) (n : Nat) : OwnV (w.drewN n) base e v cs := h
theorem OwnV.lower {b : Nat} (h : OwnV w base e v cs) (hb : b ≤ base) : OwnV w b e v cs := by
  obtain ⟨h1, h2⟩ := h
  refine ⟨h1, ?_⟩
  rcases h2 with h2 | ⟨g, cap, cur, hv, hg, r⟩
  · exact .inl h2
  · exact .inr ⟨g, cap, cur, hv, Nat.le_trans hb hg, r⟩
theorem OwnV.base_le (h : OwnV w base e v cs) (j : Nat) (hj : v.ownBlock = some j) : base ≤ j := by
  rcases h.2 with ⟨rfl, _⟩ | ⟨g, cap, cur, rfl, hg, r⟩
  · simp [Value.ownBlock] at hj
  · have : g = j := by simpa [Value.ownBlock] using hj
    omega
theorem OwnV.grown_below {B : Nat} {w0 : World} (h : OwnV w base e v cs) (hb : Below B w0 w) (hg : w.grownBy w1 v.ownBlock) (h1 : B ≤ w.heap.size) (h2 : B ≤ base) : Below B w0 w1 :=
  hb.grown hg h1 (fun j hj => Nat.le_trans h2 (h.base_le j hj))
theorem OwnV.ne_own {base' : Nat} (h : OwnV w base e v cs) (h' : Own w base' e' k v' xs) (hne : e ≠ e') : v'.ownBlock = none ∨ v'.ownBlock ≠ v.ownBlock := by
  rcases h'.2 with ⟨rfl, _⟩ | ⟨g', cap', cur', rfl, _, hh', r'⟩
  · exact .inl rfl
  · refine .inr fun he => ?_
    rcases h.2 with ⟨rfl, _⟩ | ⟨g, cap, cur, rfl, _, hh, r⟩
    · simp [Value.ownBlock] at he
    · have : g' = g := by simpa [Value.ownBlock] using he
      subst this
      rw [hh] at hh'
      injection hh' with hh'
      injection hh' with _ hh'
      exact hne hh'
theorem OwnV.ne_blk {g : Nat} {t : TypeId} {ds : List Value} (h : OwnV w base e v cs) (hg : Blk w g t ds) (hne : e ≠ t) : some g ≠ v.ownBlock := by
  rcases h.2 with ⟨rfl, _⟩ | ⟨g', cap, cur, rfl, _, hh, r⟩
  · simp [Value.ownBlock]
  · intro he
    have : g = g' := by simpa [Value.ownBlock] using he
    subst this
    unfold Blk at hg
    rw [hh] at hg
    injection hg with hg
    injection hg with _ hg
    exact hne hg
/-- Its parts: where it lies, what is read there. -/
theorem OwnV.parts (h : OwnV w base e v cs) : ∃ A c, v = .slice A cs.length c ∧ cs.length ≤ c ∧ (A = none → c = 0) ∧ ∀ i, i < cs.length → ∃ g, A = some ⟨g, 0, none⟩ ∧ w.cell? ⟨g, i, none⟩ = cs[i]? := by
  obtain ⟨h1, ⟨rfl, h2⟩ | ⟨g, cap, cur, rfl, hg, hh, hn, hm, hs, ht⟩⟩ := h
  · exact ⟨none, 0, by rw [h2], by omega, fun _ => rfl, fun i hi => by omega⟩
  · refine ⟨_, cap, rfl, hn, (fun h => by cases h), fun i hi => ⟨g, rfl, ?_⟩⟩
    have hc : w.cell? ⟨g, i, none⟩ = cur[i]? := cell_of_row w g i cur e (0, 0) hh
    rw [hc, ← ht, Nat.mul_one, List.getElem?_take, if_pos hi]; simp
end
/-- append(s, y): s the call's own; y lies in a block of one cell. -/
theorem append_val {P : Program} {w : World} {ops : Array Oper} {rest : List Oper} {o : Oper} {a : Act} {Q : Exit → Act → World → Prop} (hgd : o.guard = none) (s x : Operand) (t : TypeId)
    (ho : o.op = .call { callee := .builtin .append, args := #[s, x], argTypes := #[t, t] })
    (base : Nat) (e : TypeId) (bytes : Nat) (ht : P.underlying t = some (.slice e)) (hi : (P.info? e).map (fun i => (i.zero.map (·.cells.size), i.size, i.bytes)) = some (some 1, 1, bytes))
    (v : Value) (cs : List Value) (hs : a.eval s = v) (hown : OwnV w base e v cs)
    (g : Nat) (u : Value) (hx : a.eval x = .slice (some ⟨g, 0, none⟩) 1 1) (hg : Blk w g e [u]) (h1 : u.oneCell' = true)
    (hbytes : (cs.length + 1) * bytes ≤ 140737488355328) (h63 : cs.length + 1 ≤ 140737488355328) (hbase : base ≤ w.heap.size)
    (h : ∀ v' w', OwnV w' base e v' (cs ++ [u]) → w.grownBy w' v.ownBlock → wpList P ops Q rest (a.put o.dst v') w') :
    wpList P ops Q (o :: rest) a w := by
  cases hie : P.info? e with
  | none => simp [hie] at hi
  | some i =>
    cases hz : i.zero with
    | none => simp [hie, hz] at hi
    | some z =>
      simp [hie, hz] at hi
      refine wpList_append_own w hgd s x t ho base e i z 1 bytes ht hie hz hi.2.1 hi.2.2 (by simpa using hi.1) (by omega) v cs.length cs hs hown ⟨g, 0, none⟩ 1 1 [u] hx (by simp) ?_ ?_ (by unfold maxLen; omega) hbytes hbase ?_
      · intro j u' hj
        rw [add_lit, Nat.zero_add, hg.cell]
        exact hj
      · intro u' hu'
        obtain rfl := List.mem_singleton.1 hu'
        exact h1
      · intro v' w' h2 h3 _
        refine h v' w' ?_ h3
        unfold OwnV
        rw [List.length_append]
        exact h2
/-- A slice literal of one value. -/
theorem literal_one {P : Program} {ops : Array Oper} {rest : List Oper} {o : Oper} {a : Act} {w : World} {Q : Exit → Act → World → Prop} (hw : Region.wanted o (yielded ops a.tmps) = true) (t e : TypeId) (x : Operand) (ho : o.op = .buildSlice t 1 #[(0, x)])
    (u : Value) (hu : a.eval x = u) (h1 : u.cells = #[u]) (ht : P.underlying t = some (.slice e)) (hsz : (P.info? e).map (·.size) = some 1) (hz : ((P.info? e).bind (·.zero)).isSome = true)
    (h : ∀ (g : Nat) (w' : World), w.heap.size = g → Blk w' g e [u] → Below w.heap.size w w' → w'.heap.size = g + 1 → wpList P ops Q rest (a.put o.dst (.slice (some ⟨g, 0, none⟩) 1 1)) w') :
    wpList P ops Q (o :: rest) a w := by
  have h2 := h w.heap.size _ rfl (Blk.new w e [u]) ((Below.refl _ _).alloc (Nat.le_refl _) _) (by simp)
  cases hie : P.info? e with
  | none => simp [hie] at hsz
  | some ie =>
    simp only [hie, Option.map_some, Option.some.injEq, Option.bind_some] at hsz hz
    obtain ⟨z, hzz⟩ := Option.isSome_iff_exists.1 hz
    refine wpList_step fun K hK => ?_
    rw [if_pos hw]
    refine wp_buildSlice t e 1 _ ho [u].toArray ie z ht hie hzz (by rw [hsz]; omega) (by rw [hsz]; omega) ?_ (hK _ _ h2)
    have hp : ((#[((0 : Nat), x)] : Array (Nat × Operand)).map fun (i, x) => (i, a.eval x)).toList = [(0, u)] := by simp [hu]
    rw [hp, hsz]
    exact Great.fill_flat [u] _ (fun v hv => by obtain rfl := List.mem_singleton.1 hv; exact h1) (by simp)
/-- Own rows of numbers in an own row. -/
def OwnL (w : World) (base : Nat) (e e1 : TypeId) (k : IntKind) (v : Value) (xss : List (List Int)) : Prop :=
  ∃ cs, OwnV w base e v cs ∧ cs.length = xss.length ∧ ∀ j, j < xss.length → Own w base e1 k (cs.getD j undef) (xss.getD j [])
section
variable {w w1 : World} {base : Nat} {e e1 : TypeId} {k : IntKind} {v : Value} {xss : List (List Int)}
theorem OwnL.nil (w : World) (base : Nat) (e e1 : TypeId) (k : IntKind) : OwnL w base e e1 k (.slice none 0 0) [] := ⟨[], OwnV.nil _ _ _, rfl, fun j hj => by simp at hj⟩
theorem OwnL.below (h : OwnL w base e e1 k v xss) (hb : Below w.heap.size w w1) : OwnL w1 base e e1 k v xss := by
  obtain ⟨cs, h1, h2, h3⟩ := h
  exact ⟨cs, h1.below hb, h2, fun j hj => (h3 j hj).below hb⟩
theorem OwnL.drew (h : OwnL w base e e1 k v xss) : OwnL w.drew base e e1 k v xss := h
theorem OwnL.lower {b : Nat} (h : OwnL w base e e1 k v xss) (hb : b ≤ base) : OwnL w b e e1 k v xss := by
  obtain ⟨cs, h1, h2, h3⟩ := h
  exact ⟨cs, h1.lower hb, h2, fun j hj => (h3 j hj).lower hb⟩
theorem OwnL.grown_below {B : Nat} {w0 : World} (h : OwnL w base e e1 k v xss) (hb : Below B w0 w) (hg : w.grownBy w1 v.ownBlock) (h1 : B ≤ w.heap.size) (h2 : B ≤ base) : Below B w0 w1 := by
  obtain ⟨cs, h3, _, _⟩ := h
  exact h3.grown_below hb hg h1 h2
end
/-- append(s, y) of an own row of numbers. -/
theorem append_row {P : Program} {w : World} {ops : Array Oper} {rest : List Oper} {o : Oper} {a : Act} {Q : Exit → Act → World → Prop} (hgd : o.guard = none) (s x : Operand) (t : TypeId)
    (ho : o.op = .call { callee := .builtin .append, args := #[s, x], argTypes := #[t, t] })
    (base : Nat) (e e1 : TypeId) (k : IntKind) (bytes : Nat) (ht : P.underlying t = some (.slice e)) (hi : (P.info? e).map (fun i => (i.zero.map (·.cells.size), i.size, i.bytes)) = some (some 1, 1, bytes)) (hne : e ≠ e1)
    (v : Value) (xss : List (List Int)) (hs : a.eval s = v) (hown : OwnL w base e e1 k v xss)
    (g : Nat) (u : Value) (ys : List Int) (hx : a.eval x = .slice (some ⟨g, 0, none⟩) 1 1) (hg : Blk w g e [u]) (hu : Own w base e1 k u ys)
    (hbytes : (xss.length + 1) * bytes ≤ 140737488355328) (h63 : xss.length + 1 ≤ 140737488355328) (hbase : base ≤ w.heap.size)
    (h : ∀ v' w', OwnL w' base e e1 k v' (xss ++ [ys]) → w.grownBy w' v.ownBlock → wpList P ops Q rest (a.put o.dst v') w') :
    wpList P ops Q (o :: rest) a w := by
  obtain ⟨cs, h1, h2, h3⟩ := hown
  obtain ⟨A, c, hv, _⟩ := hu.parts
  refine append_val hgd s x t ho base e bytes ht hi v cs hs h1 g u hx hg (by rw [hv]; rfl) (by rw [h2]; exact hbytes) (by rw [h2]; exact h63) hbase ?_
  intro v' w' h4 h5
  refine h v' w' ⟨cs ++ [u], h4, by simp [h2], fun j hj => ?_⟩ h5
  rw [List.length_append, List.length_singleton] at hj
  by_cases hjl : j < xss.length
  · have hjc : j < cs.length := by omega
    rw [List.getD_eq_getElem?_getD, List.getD_eq_getElem?_getD, List.getElem?_append_left hjl, List.getElem?_append_left hjc, ← List.getD_eq_getElem?_getD, ← List.getD_eq_getElem?_getD]
    exact (h3 j hjl).kept h5 (h1.ne_own (h3 j hjl) hne)
  · obtain rfl : j = xss.length := by omega
    rw [List.getD_eq_getElem?_getD, List.getD_eq_getElem?_getD, List.getElem?_append_right (Nat.le_refl _), ← h2, List.getElem?_append_right (Nat.le_refl _)]
    simp only [Nat.sub_self, List.getElem?_cons_zero, Option.getD_some]
    exact hu.kept h5 (h1.ne_own hu hne)
end Go.Cour
