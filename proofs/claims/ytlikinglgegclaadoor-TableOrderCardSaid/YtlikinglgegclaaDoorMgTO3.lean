import Derived.Laws.StructEq
import Derived.Laws.Cells
import Derived.Laws.AppendOwnNone
import Derived.Laws.CopyOwn
import Derived.Test.YtlikinglgegclaaDoorProg
import Derived.Test.YtlikinglgegclaaDoorMgTO0
import Derived.Test.YtlikinglgegclaaDoorMgTO1
import Derived.Test.YtlikinglgegclaaDoorMgTO2
set_option linter.unusedSimpArgs false
set_option linter.unusedVariables false
open List (getElem_toArray getElem_cons_zero getElem_cons_succ)
/- Arrays of whole numbers: compared; read out of the midst of a block. -/
namespace Go.Cour
open Go.RowKit
section
variable {P : Program} (w : World)
end
/-- An array read out of the midst of a block. -/
theorem load_in {P : Program} {ops : Array Oper} {rest : List Oper} {o : Oper} {a : Act} {w : World} {Q : Exit → Act → World → Prop} (hw : Region.wanted o (yielded ops a.tmps) = true) (ty : TypeId) (x : Operand) (ho : o.op = .load ty x)
    (g off : Nat) (hx : a.eval x = .pointer (some ⟨g, off, none⟩)) (cs : List Value) (hc : ∀ j v, cs[j]? = some v → w.cell? ⟨g, off + j, none⟩ = some v) (n : Nat) (e : TypeId) (hu : P.underlying ty = some (.array n e)) (hl : cs.length = n)
    (hi : (P.info? ty).map (·.size) = some n)
    (h : wpList P ops Q rest (a.put o.dst (.agg cs.toArray)) w) : wpList P ops Q (o :: rest) a w := by
  refine wpList_step fun K hK => ?_
  rw [if_pos hw]
  unfold Oper.wp execOp
  have h1 := run_loadCells_list (P := P) w ⟨g, off, none⟩ cs (fun j v hv => by rw [add_lit]; exact hc j v hv)
  rw [hl] at h1
  cases hii : P.info? ty with
  | none => simp [hii] at hi
  | some i =>
    simp [hii] at hi
    simp [ho, hx, Instr.loadAt, Instr.sureAddr, loadVar, isAgg, run_underlying hu, sizeOf, typeInfo, hii, hi, h1]
    exact hK _ _ h
/-- A composite value, guarded or not. -/
theorem build_to {P : Program} {ops : Array Oper} {rest : List Oper} {o : Oper} {a : Act} {w : World} {Q : Exit → Act → World → Prop} (hw : Region.wanted o (yielded ops a.tmps) = true) (t : TypeId) (parts : Array (Nat × Operand)) (ho : o.op = .build t parts)
    (cells : Array Value) (hf : P.built t (parts.map fun (i, x) => (i, a.eval x)).toList = some cells)
    (h : wpList P ops Q rest (a.put o.dst (.agg cells)) w) : wpList P ops Q (o :: rest) a w := by
  refine wpList_step fun K hK => ?_
  rw [if_pos hw]
  refine wp_build t parts ho (by rw [hf]; rfl) ?_
  rw [hf]
  exact hK _ _ h
/-- An own slice's parts; the empty one has no places. -/
theorem Own.parts {w : World} {base : Nat} {e : TypeId} {k : IntKind} {v : Value} {xs : List Int} (h : Own w base e k v xs) :
    ∃ A c, v = .slice A xs.length c ∧ xs.length ≤ c ∧ (A = none → c = 0) ∧ Rd w A k xs := by
  obtain ⟨A, c, rfl, h1, h2, h3⟩ := h.slice
  refine ⟨A, c, rfl, h1, fun hA => ?_, h3⟩
  rcases h.2 with ⟨hv, _⟩ | ⟨g, cap, cur, hv, r⟩
  · injection hv with _ _ h
  · injection hv with h; rw [hA] at h; cases h
/-- A composite value laid into a new variable. -/
theorem box_blk {P : Program} {ops : Array Oper} {rest : List Oper} {o : Oper} {a : Act} {w : World} {Q : Exit → Act → World → Prop} (hgd : o.guard = none) (ty : TypeId) (x : Operand) (ho : o.op = .box ty x) (d : Option Tmp) (hd : o.dst = d) (cs : List Value)
    (hx : a.eval x = .agg cs.toArray)
    (h : ∀ (g : Nat) (w' : World), w.heap.size = g → Blk w' g ty cs → Below w.heap.size w w' → w'.heap.size = g + 1 → wpList P ops Q rest (a.put d (.pointer (some ⟨g, 0, none⟩))) w') :
    wpList P ops Q (o :: rest) a w := by
  subst hd
  have h1 := h w.heap.size (w.alloc (.cells cs.toArray ty)) rfl (Blk.new _ _ _) ((Below.refl _ _).alloc (Nat.le_refl _) _) (by simp)
  refine wpList_plain hgd fun K hK => ?_
  unfold Oper.wp execOp
  simp [ho, hx, Instr.box, newVar, newRow, Value.cells]
  exact hK _ _ h1
end Go.Cour
/- Own rows of values, each of one cell; own rows of own rows of numbers. -/
namespace Go.Cour
open Go.RowKit
/-- The slice value v, of the values cs, is the call's own. -/
def OwnV (w : World) (base : Nat) (e : TypeId) (v : Value) (cs : List Value) : Prop := w.ownsRow base e 1 v cs.length cs
section
variable {w w1 : World} {base : Nat} {e e' : TypeId} {k : IntKind} {v v' : Value} {cs : List Value} {xs : List Int}
theorem OwnV.nil (w : World) (base : Nat) (e : TypeId) : OwnV w base e (.slice none 0 0) [] := ⟨by simp, .inl ⟨rfl, rfl⟩⟩
theorem OwnV.below (h : OwnV w base e v cs) (hb : Below w.heap.size w w1) : OwnV w1 base e v cs := by
  obtain ⟨h1, h2⟩ := h
  refine ⟨h1, ?_⟩
  rcases h2 with h2 | ⟨g, cap, cur, rfl, hg, hh, r⟩
  · exact .inl h2
  · exact .inr ⟨g, cap, cur, rfl, hg, (hb.block g (Array.getElem?_eq_some_iff.1 hh).1).trans hh, r⟩
theorem OwnV.drew (h : OwnV w base e v cs) : OwnV w.drew base e v cs := h
theorem OwnV.drewN (h : OwnV w base e v cs) (n : Nat) : OwnV (w.drewN n) base e v cs := h
theorem OwnV.lower {b : Nat} (h : OwnV w base e v cs) (hb : b ≤ base) : OwnV w b e v cs := by
  obtain ⟨h1, h2⟩ := h
  refine ⟨h1, ?_⟩
  rcases h2 with h2 | ⟨g, cap, cur, hv, hg, r⟩
  · exact .inl h2
  · exact .inr ⟨g, cap, cur, hv, Nat.le_trans hb hg, r⟩
theorem OwnV.base_le (h : OwnV w base e v cs) (j : Nat) (hj : v.ownBlock = some j) : base ≤ j := by
  rcases h.2 with ⟨rfl, _⟩ | ⟨g, cap, cur, rfl, hg, r⟩
  · simp [Value.ownBlock] at hj
  · have : g = j := by simpa [Value.ownBlock] using hj
    omega
theorem OwnV.grown_below {B : Nat} {w0 : World} (h : OwnV w base e v cs) (hb : Below B w0 w) (hg : w.grownBy w1 v.ownBlock) (h1 : B ≤ w.heap.size) (h2 : B ≤ base) : Below B w0 w1 :=
  hb.grown hg h1 (fun j hj => Nat.le_trans h2 (h.base_le j hj))
theorem OwnV.ne_own {base' : Nat} (h : OwnV w base e v cs) (h' : Own w base' e' k v' xs) (hne : e ≠ e') : v'.ownBlock = none ∨ v'.ownBlock ≠ v.ownBlock := by
  rcases h'.2 with ⟨rfl, _⟩ | ⟨g', cap', cur', rfl, _, hh', r'⟩
  · exact .inl rfl
  · refine .inr fun he => ?_
    rcases h.2 with ⟨rfl, _⟩ | ⟨g, cap, cur, rfl, _, hh, r⟩
    · simp [Value.ownBlock] at he
    · have : g' = g := by simpa [Value.ownBlock] using he
      subst this
      rw [hh] at hh'
      injection hh' with hh'
      injection hh' with _ hh'
      exact hne hh'
theorem OwnV.ne_blk {g : Nat} {t : TypeId} {ds : List Value} (h : OwnV w base e v cs) (hg : Blk w g t ds) (hne : e ≠ t) : some g ≠ v.ownBlock := by
  rcases h.2 with ⟨rfl, _⟩ | ⟨g', cap, cur, rfl, _, hh, r⟩
  · simp [Value.ownBlock]
  · intro he
    have : g = g' := by simpa [Value.ownBlock] using he
    subst this
    unfold Blk at hg
    rw [hh] at hg
    injection hg with hg
    injection hg with _ hg
    exact hne hg
/-- Its parts: where it lies, what is read there. -/
theorem OwnV.parts (h : OwnV w base e v cs) : ∃ A c, v = .slice A cs.length c ∧ cs.length ≤ c ∧ (A = none → c = 0) ∧ ∀ i, i < cs.length → ∃ g, A = some ⟨g, 0, none⟩ ∧ w.cell? ⟨g, i, none⟩ = cs[i]? := by
  obtain ⟨h1, ⟨rfl, h2⟩ | ⟨g, cap, cur, rfl, hg, hh, hn, hm, hs, ht⟩⟩ := h
  · exact ⟨none, 0, by rw [h2], by omega, fun _ => rfl, fun i hi => by omega⟩
  · refine ⟨_, cap, rfl, hn, (fun h => by cases h), fun i hi => ⟨g, rfl, ?_⟩⟩
    have hc : w.cell? ⟨g, i, none⟩ = cur[i]? := cell_of_row w g i cur e (0, 0) hh
    rw [hc, ← ht, Nat.mul_one, List.getElem?_take, if_pos hi]; simp
end
/-- append(s, y): s the call's own; y lies in a block of one cell. -/
theorem append_val {P : Program} {w : World} {ops : Array Oper} {rest : List Oper} {o : Oper} {a : Act} {Q : Exit → Act → World → Prop} (hgd : o.guard = none) (s x : Operand) (t : TypeId)
    (ho : o.op = .call { callee := .builtin .append, args := #[s, x], argTypes := #[t, t] })
    (base : Nat) (e : TypeId) (bytes : Nat) (ht : P.underlying t = some (.slice e)) (hi : (P.info? e).map (fun i => (i.zero.map (·.cells.size), i.size, i.bytes)) = some (some 1, 1, bytes))
    (v : Value) (cs : List Value) (hs : a.eval s = v) (hown : OwnV w base e v cs)
    (g : Nat) (u : Value) (hx : a.eval x = .slice (some ⟨g, 0, none⟩) 1 1) (hg : Blk w g e [u]) (h1 : u.oneCell' = true)
    (hbytes : (cs.length + 1) * bytes ≤ 140737488355328) (h63 : cs.length + 1 ≤ 140737488355328) (hbase : base ≤ w.heap.size)
    (h : ∀ v' w', OwnV w' base e v' (cs ++ [u]) → w.grownBy w' v.ownBlock → wpList P ops Q rest (a.put o.dst v') w') :
    wpList P ops Q (o :: rest) a w := by
  cases hie : P.info? e with
  | none => simp [hie] at hi
  | some i =>
    cases hz : i.zero with
    | none => simp [hie, hz] at hi
    | some z =>
      simp [hie, hz] at hi
      refine wpList_append_own w hgd s x t ho base e i z 1 bytes ht hie hz hi.2.1 hi.2.2 (by simpa using hi.1) (by omega) v cs.length cs hs hown ⟨g, 0, none⟩ 1 1 [u] hx (by simp) ?_ ?_ (by unfold maxLen; omega) hbytes hbase ?_
      · intro j u' hj
        rw [add_lit, Nat.zero_add, hg.cell]
        exact hj
      · intro u' hu'
        obtain rfl := List.mem_singleton.1 hu'
        exact h1
      · intro v' w' h2 h3 _
        refine h v' w' ?_ h3
        unfold OwnV
        rw [List.length_append]
        exact h2
/-- A slice literal of one value. -/
theorem literal_one {P : Program} {ops : Array Oper} {rest : List Oper} {o : Oper} {a : Act} {w : World} {Q : Exit → Act → World → Prop} (hw : Region.wanted o (yielded ops a.tmps) = true) (t e : TypeId) (x : Operand) (ho : o.op = .buildSlice t 1 #[(0, x)])
    (u : Value) (hu : a.eval x = u) (h1 : u.cells = #[u]) (ht : P.underlying t = some (.slice e)) (hsz : (P.info? e).map (·.size) = some 1) (hz : ((P.info? e).bind (·.zero)).isSome = true)
    (h : ∀ (g : Nat) (w' : World), w.heap.size = g → Blk w' g e [u] → Below w.heap.size w w' → w'.heap.size = g + 1 → wpList P ops Q rest (a.put o.dst (.slice (some ⟨g, 0, none⟩) 1 1)) w') :
    wpList P ops Q (o :: rest) a w := by
  have h2 := h w.heap.size _ rfl (Blk.new w e [u]) ((Below.refl _ _).alloc (Nat.le_refl _) _) (by simp)
  cases hie : P.info? e with
  | none => simp [hie] at hsz
  | some ie =>
    simp only [hie, Option.map_some, Option.some.injEq, Option.bind_some] at hsz hz
    obtain ⟨z, hzz⟩ := Option.isSome_iff_exists.1 hz
    refine wpList_step fun K hK => ?_
    rw [if_pos hw]
    refine wp_buildSlice t e 1 _ ho [u].toArray ie z ht hie hzz (by rw [hsz]; omega) (by rw [hsz]; omega) ?_ (hK _ _ h2)
    have hp : ((#[((0 : Nat), x)] : Array (Nat × Operand)).map fun (i, x) => (i, a.eval x)).toList = [(0, u)] := by simp [hu]
    rw [hp, hsz]
    exact Great.fill_flat [u] _ (fun v hv => by obtain rfl := List.mem_singleton.1 hv; exact h1) (by simp)
/-- Own rows of numbers in an own row. -/
def OwnL (w : World) (base : Nat) (e e1 : TypeId) (k : IntKind) (v : Value) (xss : List (List Int)) : Prop :=
  ∃ cs, OwnV w base e v cs ∧ cs.length = xss.length ∧ ∀ j, j < xss.length → Own w base e1 k (cs.getD j undef) (xss.getD j [])
section
variable {w w1 : World} {base : Nat} {e e1 : TypeId} {k : IntKind} {v : Value} {xss : List (List Int)}
theorem OwnL.nil (w : World) (base : Nat) (e e1 : TypeId) (k : IntKind) : OwnL w base e e1 k (.slice none 0 0) [] := ⟨[], OwnV.nil _ _ _, rfl, fun j hj => by simp at hj⟩
theorem OwnL.below (h : OwnL w base e e1 k v xss) (hb : Below w.heap.size w w1) : OwnL w1 base e e1 k v xss := by
  obtain ⟨cs, h1, h2, h3⟩ := h
  exact ⟨cs, h1.below hb, h2, fun j hj => (h3 j hj).below hb⟩
theorem OwnL.drew (h : OwnL w base e e1 k v xss) : OwnL w.drew base e e1 k v xss := h
theorem OwnL.lower {b : Nat} (h : OwnL w base e e1 k v xss) (hb : b ≤ base) : OwnL w b e e1 k v xss := by
  obtain ⟨cs, h1, h2, h3⟩ := h
  exact ⟨cs, h1.lower hb, h2, fun j hj => (h3 j hj).lower hb⟩
theorem OwnL.grown_below {B : Nat} {w0 : World} (h : OwnL w base e e1 k v xss) (hb : Below B w0 w) (hg : w.grownBy w1 v.ownBlock) (h1 : B ≤ w.heap.size) (h2 : B ≤ base) : Below B w0 w1 := by
  obtain ⟨cs, h3, _, _⟩ := h
  exact h3.grown_below hb hg h1 h2
end
/-- append(s, y) of an own row of numbers. -/
theorem append_row {P : Program} {w : World} {ops : Array Oper} {rest : List Oper} {o : Oper} {a : Act} {Q : Exit → Act → World → Prop} (hgd : o.guard = none) (s x : Operand) (t : TypeId)
    (ho : o.op = .call { callee := .builtin .append, args := #[s, x], argTypes := #[t, t] })
    (base : Nat) (e e1 : TypeId) (k : IntKind) (bytes : Nat) (ht : P.underlying t = some (.slice e)) (hi : (P.info? e).map (fun i => (i.zero.map (·.cells.size), i.size, i.bytes)) = some (some 1, 1, bytes)) (hne : e ≠ e1)
    (v : Value) (xss : List (List Int)) (hs : a.eval s = v) (hown : OwnL w base e e1 k v xss)
    (g : Nat) (u : Value) (ys : List Int) (hx : a.eval x = .slice (some ⟨g, 0, none⟩) 1 1) (hg : Blk w g e [u]) (hu : Own w base e1 k u ys)
    (hbytes : (xss.length + 1) * bytes ≤ 140737488355328) (h63 : xss.length + 1 ≤ 140737488355328) (hbase : base ≤ w.heap.size)
    (h : ∀ v' w', OwnL w' base e e1 k v' (xss ++ [ys]) → w.grownBy w' v.ownBlock → wpList P ops Q rest (a.put o.dst v') w') :
    wpList P ops Q (o :: rest) a w := by
  obtain ⟨cs, h1, h2, h3⟩ := hown
  obtain ⟨A, c, hv, _⟩ := hu.parts
  refine append_val hgd s x t ho base e bytes ht hi v cs hs h1 g u hx hg (by rw [hv]; rfl) (by rw [h2]; exact hbytes) (by rw [h2]; exact h63) hbase ?_
  intro v' w' h4 h5
  refine h v' w' ⟨cs ++ [u], h4, by simp [h2], fun j hj => ?_⟩ h5
  rw [List.length_append, List.length_singleton] at hj
  by_cases hjl : j < xss.length
  · have hjc : j < cs.length := by omega
    rw [List.getD_eq_getElem?_getD, List.getD_eq_getElem?_getD, List.getElem?_append_left hjl, List.getElem?_append_left hjc, ← List.getD_eq_getElem?_getD, ← List.getD_eq_getElem?_getD]
    exact (h3 j hjl).kept h5 (h1.ne_own (h3 j hjl) hne)
  · obtain rfl : j = xss.length := by omega
    rw [List.getD_eq_getElem?_getD, List.getD_eq_getElem?_getD, List.getElem?_append_right (Nat.le_refl _), ← h2, List.getElem?_append_right (Nat.le_refl _)]
    simp only [Nat.sub_self, List.getElem?_cons_zero, Option.getD_some]
    exact hu.kept h5 (h1.ne_own hu hne)
end Go.Cour
/- Memory in parts: what may change, what is read where; many things side by side. -/
namespace Go.Cour
open Go.RowKit
/-- Of the blocks that w has, those of F alone may differ in w'. -/
structure Upd (F : Nat → Prop) (w w' : World) : Prop where
  os : w'.os = w.os
  tape : w'.tape = w.tape
  output : w'.output = w.output
  size : w.heap.size ≤ w'.heap.size
  block : ∀ k, k < w.heap.size → ¬ F k → w'.heap[k]? = w.heap[k]?
def NoF : Nat → Prop := fun _ => False
section
variable {F G : Nat → Prop} {w w1 w2 w' : World}
theorem Upd.refl (F : Nat → Prop) (w : World) : Upd F w w := ⟨rfl, rfl, rfl, Nat.le_refl _, fun _ _ _ => rfl⟩
theorem Upd.trans (h : Upd F w w1) (k : Upd G w1 w2) (hG : ∀ j, j < w.heap.size → G j → F j) : Upd F w w2 :=
  ⟨k.os.trans h.os, k.tape.trans h.tape, k.output.trans h.output, Nat.le_trans h.size k.size, fun j hj hf =>
    (k.block j (Nat.lt_of_lt_of_le hj h.size) (fun hg => hf (hG j hj hg))).trans (h.block j hj hf)⟩
theorem Upd.mono (h : Upd F w w1) (hG : ∀ j, j < w.heap.size → F j → G j) : Upd G w w1 :=
  ⟨h.os, h.tape, h.output, h.size, fun j hj hf => h.block j hj (fun hF => hf (hG j hj hF))⟩
theorem Upd.of_below (h : Below w.heap.size w w1) (F : Nat → Prop) : Upd F w w1 := ⟨h.os, h.tape, h.output, h.size, fun j hj _ => h.block j hj⟩
theorem Upd.below {B : Nat} (h : Upd F w w1) (hB : B ≤ w.heap.size) (hF : ∀ j, F j → B ≤ j) : Below B w w1 :=
  ⟨h.os, h.tape, h.output, h.size, fun j hj => h.block j (by omega) (fun hf => by have := hF j hf; omega)⟩
theorem Upd.of_grown {row : Option Nat} (h : w.grownBy w1 row) : Upd (fun j => row = some j) w w1 :=
  ⟨h.os, h.tape, h.output, h.size, fun j hj hf => h.block j hj (fun he => hf he.symm)⟩
theorem Upd.setCell (w : World) (a : Addr) (v : Value) : Upd (fun j => j = a.block) w (w.setCell a v) :=
  ⟨rfl, rfl, rfl, by simp [World.setCell], fun j _ hf => Below.heap_setCell _ _ _ _ hf⟩
theorem Upd.alloc (w : World) (o : Obj) (F : Nat → Prop) : Upd F w (w.alloc o) := Upd.of_below ((Below.refl _ _).alloc (Nat.le_refl _) _) F
theorem Upd.setRow (w : World) (g : Nat) (cs : Array Value) : Upd (fun j => j = g) w (w.setRow g cs) :=
  ⟨rfl, rfl, rfl, by simp, fun j _ hf => setRow_other w g j cs hf⟩
theorem Upd.drewN (h : Upd F w w1) (n : Nat) : Upd F w (w1.drewN n) := ⟨h.os, h.tape, h.output, h.size, h.block⟩
theorem Upd.drew (h : Upd F w w1) : Upd F w w1.drew := ⟨h.os, h.tape, h.output, h.size, h.block⟩
/-- A block that is not among those that may change. -/
theorem Blk.upd {g : Nat} {t : TypeId} {cs : List Value} (h : Blk w g t cs) (hu : Upd F w w1) (hg : ¬ F g) : Blk w1 g t cs := (hu.block g h.lt hg).trans h
theorem Rd.upd {A : Option Addr} {k : IntKind} {xs : List Int} (h : Rd w A k xs) (hu : Upd F w w1) (hg : ∀ a, A = some a → xs ≠ [] → ¬ F a.block) : Rd w1 A k xs := by
  rcases h with h | ⟨g, o, rfl, h⟩
  · exact .inl h
  · by_cases he : xs = []
    · exact .inl he
    · exact .inr ⟨g, o, rfl, fun i hi => by
        rw [← h i hi]
        have := hu.block g (lt_of_cell (h i hi)) (hg _ rfl he)
        simp only [World.cell?, this]⟩
end
/-- What is said of a value by the blocks F of memory. -/
structure HA (α : Type) where
  at_ : World → (Nat → Prop) → Value → α → Prop
  lt : ∀ {w F v x}, at_ w F v x → ∀ k, F k → k < w.heap.size
  kept : ∀ {w w' F v x}, at_ w F v x → (∀ k, F k → w'.heap[k]? = w.heap[k]?) → at_ w' F v x
  eqv : ∀ {w F G v x}, at_ w F v x → (∀ k, F k ↔ G k) → at_ w G v x
section
variable {α : Type} {H : HA α}
theorem HA.upd {w w' : World} {F G : Nat → Prop} {v : Value} {x : α} (h : H.at_ w F v x) (hu : Upd G w w') (hd : ∀ k, F k → ¬ G k) : H.at_ w' F v x :=
  H.kept h fun k hk => hu.block k (H.lt h k hk) (hd k hk)
theorem HA.below {w w' : World} {F : Nat → Prop} {v : Value} {x : α} (h : H.at_ w F v x) (hb : Below w.heap.size w w') : H.at_ w' F v x :=
  H.kept h fun k hk => hb.block k (H.lt h k hk)
/-- Things side by side. -/
def Star (H : HA α) (w : World) : (Nat → Prop) → List Value → List α → Prop
  | F, [], [] => ∀ k, ¬ F k
  | F, v :: vs, x :: xs => ∃ F1 F2, H.at_ w F1 v x ∧ Star H w F2 vs xs ∧ (∀ k, F1 k → ¬ F2 k) ∧ ∀ k, F k ↔ F1 k ∨ F2 k
  | _, _, _ => False
theorem Star.lt {w : World} : ∀ {F : Nat → Prop} {vs : List Value} {xs : List α}, Star H w F vs xs → ∀ k, F k → k < w.heap.size
  | _, [], [], h, k, hk => absurd hk (h k)
  | _, v :: vs, x :: xs, ⟨F1, F2, h1, h2, _, hF⟩, k, hk => by
    rcases (hF k).1 hk with hk | hk
    · exact H.lt h1 k hk
    · exact Star.lt h2 k hk
  | _, [], _ :: _, h, _, _ => h.elim
  | _, _ :: _, [], h, _, _ => h.elim
theorem Star.length {w : World} : ∀ {F : Nat → Prop} {vs : List Value} {xs : List α}, Star H w F vs xs → vs.length = xs.length
  | _, [], [], _ => rfl
  | _, _ :: _, _ :: _, ⟨_, _, _, h2, _, _⟩ => by simp [Star.length h2]
  | _, [], _ :: _, h => h.elim
  | _, _ :: _, [], h => h.elim
theorem Star.kept {w w' : World} : ∀ {F : Nat → Prop} {vs : List Value} {xs : List α}, Star H w F vs xs → (∀ k, F k → w'.heap[k]? = w.heap[k]?) → Star H w' F vs xs
  | _, [], [], h, _ => h
  | _, v :: vs, x :: xs, ⟨F1, F2, h1, h2, hd, hF⟩, hk => ⟨F1, F2, H.kept h1 fun k h => hk k ((hF k).2 (.inl h)), Star.kept h2 (fun k h => hk k ((hF k).2 (.inr h))), hd, hF⟩
  | _, [], _ :: _, h, _ => h.elim
  | _, _ :: _, [], h, _ => h.elim
theorem Star.eqv {w : World} : ∀ {F G : Nat → Prop} {vs : List Value} {xs : List α}, Star H w F vs xs → (∀ k, F k ↔ G k) → Star H w G vs xs
  | _, _, [], [], h, hk => fun k hg => h k ((hk k).2 hg)
  | _, _, v :: vs, x :: xs, ⟨F1, F2, h1, h2, hd, hF⟩, hk => ⟨F1, F2, h1, h2, hd, fun k => (hk k).symm.trans (hF k)⟩
  | _, _, [], _ :: _, h, _ => h.elim
  | _, _, _ :: _, [], h, _ => h.elim
theorem Star.upd {w w' : World} {F G : Nat → Prop} {vs : List Value} {xs : List α} (h : Star H w F vs xs) (hu : Upd G w w') (hd : ∀ k, F k → ¬ G k) : Star H w' F vs xs :=
  h.kept fun k hk => hu.block k (h.lt k hk) (hd k hk)
theorem Star.below {w w' : World} {F : Nat → Prop} {vs : List Value} {xs : List α} (h : Star H w F vs xs) (hb : Below w.heap.size w w') : Star H w' F vs xs :=
  h.kept fun k hk => hb.block k (h.lt k hk)
theorem Star.nil (H : HA α) (w : World) : Star H w NoF [] [] := fun _ h => h
/-- Some of them, in their order. -/
theorem Star.part {w : World} (p : α → Bool) : ∀ {F : Nat → Prop} {vs : List Value} {xs : List α}, Star H w F vs xs → ∃ F', Star H w F' (((vs.zip xs).filter fun y => p y.2).map (·.1)) (xs.filter p) ∧ ∀ k, F' k → F k
  | F, [], [], h => ⟨F, h, fun _ h => h⟩
  | F, v :: vs, x :: xs, ⟨F1, F2, h1, h2, hd, hF⟩ => by
    obtain ⟨G, hG, hsub⟩ := Star.part p h2
    cases hp : p x with
    | false => exact ⟨G, by simpa [List.filter, hp] using hG, fun k hk => (hF k).2 (.inr (hsub k hk))⟩
    | true => exact ⟨fun k => F1 k ∨ G k, by
        simp only [List.zip_cons_cons, List.filter, hp, List.map_cons]
        exact ⟨F1, G, h1, hG, fun k h1' h2' => hd k h1' (hsub k h2'), fun _ => Iff.rfl⟩, fun k hk => (hF k).2 (hk.imp id (hsub k))⟩
  | _, [], _ :: _, h => h.elim
  | _, _ :: _, [], h => h.elim
end
theorem Own.kept' {w w' : World} {B : Nat} {e : TypeId} {k : IntKind} {v : Value} {xs : List Int} (h : Own w B e k v xs) (hk : ∀ j, v.ownBlock = some j → w'.heap[j]? = w.heap[j]?) : Own w' B e k v xs := by
  obtain ⟨h1, h2⟩ := h
  refine ⟨h1, ?_⟩
  rcases h2 with h2 | ⟨g, cap, cur, rfl, hb, hh, r⟩
  · exact .inl h2
  · exact .inr ⟨g, cap, cur, rfl, hb, (hk g rfl).trans hh, r⟩
theorem Own.lt_size {w : World} {base : Nat} {e : TypeId} {k : IntKind} {v : Value} {xs : List Int} (h : Own w base e k v xs) (j : Nat) (hj : v.ownBlock = some j) : j < w.heap.size := by
  rcases h.2 with ⟨rfl, _⟩ | ⟨g, cap, cur, rfl, hg, hh, r⟩
  · simp [Value.ownBlock] at hj
  · have : g = j := by simpa [Value.ownBlock] using hj
    subst this
    exact (Array.getElem?_eq_some_iff.1 hh).1
theorem OwnV.kept' {w w' : World} {B : Nat} {e : TypeId} {v : Value} {cs : List Value} (h : OwnV w B e v cs) (hk : ∀ j, v.ownBlock = some j → w'.heap[j]? = w.heap[j]?) : OwnV w' B e v cs := by
  obtain ⟨h1, h2⟩ := h
  refine ⟨h1, ?_⟩
  rcases h2 with h2 | ⟨g, cap, cur, rfl, hb, hh, r⟩
  · exact .inl h2
  · exact .inr ⟨g, cap, cur, rfl, hb, (hk g rfl).trans hh, r⟩
theorem OwnV.lt_size {w : World} {base : Nat} {e : TypeId} {v : Value} {cs : List Value} (h : OwnV w base e v cs) (j : Nat) (hj : v.ownBlock = some j) : j < w.heap.size := by
  rcases h.2 with ⟨rfl, _⟩ | ⟨g, cap, cur, rfl, hg, hh, r⟩
  · simp [Value.ownBlock] at hj
  · have : g = j := by simpa [Value.ownBlock] using hj
    subst this
    exact (Array.getElem?_eq_some_iff.1 hh).1
end Go.Cour
/- append(s, ..) where s is one's own: where the new slice lies. -/
namespace Go.Cour
open Go.RowKit
section
variable {P : Program} {w : World} {ops : Array Oper} {rest : List Oper} {o : Oper} {a : Act} {Q : Exit → Act → World → Prop}
/-- Where the new slice lies: where the old one did, or in a new block. -/
def Lies (v v' : Value) (w : World) : Prop := v'.ownBlock = v.ownBlock ∨ v'.ownBlock = some w.heap.size
theorem append_lies (t ty e : TypeId) (i : TypeInfo) (z : Value) (size bytes : Nat) (ht : P.underlying t = some (.slice e)) (hi : P.info? e = some i) (hz : i.zero = some z)
    (hsize : i.size = size) (hby : i.bytes = bytes)
    (v : Value) (n : Nat) (xs : List Value) (hown : w.ownsRow 0 e size v n xs)
    (ad : Addr) (m c : Nat) (news : List Value) (hl : news.length = m * size) (hnews : ∀ j u, news[j]? = some u → w.cell? (ad.add j) = some u) (h1 : ∀ u ∈ news, u.oneCell' = true)
    (h63 : n + m ≤ maxLen) (hbytes : (n + m) * bytes ≤ 140737488355328) {v' : Value} {w' : World} (hr : (Builtin.append_ #[t, t] ty #[v, .slice (some ad) m c]).run P w = .ok v' w') : Lies v v' w := by
  subst hsize
  subst hby
  have hsmall : n + m ≤ 9223372036854775807 := by simp only [maxLen] at h63; omega
  rcases hown.2 with ⟨rfl, rfl⟩ | ⟨g, cap, cur, rfl, hbg, hg, hnc, hcm, hcs, htake⟩
  · by_cases hm : m = 0
    · subst hm
      have hn : news = [] := List.eq_nil_of_length_eq_zero (by simpa using hl)
      subst hn
      simp [Builtin.append_, run_underlying ht, sizeOf, typeInfo, hi, Builtin.lenOf, Builtin.firstCells, loadCells, loadCellsFrom] at hr
      exact .inl (by rw [← hr.1])
    · have hr2 := run_append_nil (P := P) w t ty e i z ht hi hz ad m c news hl hnews (by omega) (by omega) (by have hb := hbytes; simp only [Nat.zero_add] at hb; omega)
      rw [hr2] at hr
      injection hr with hr _
      exact .inr (by rw [← hr]; rfl)
  · by_cases hroom : n + m ≤ cap
    · have hfit : n * i.size + news.length ≤ cur.size := by rw [hl, hcs, ← Nat.add_mul]; exact Nat.mul_le_mul_right _ hroom
      have hr2 := run_append_room (P := P) w t ty e i ht hi g n cap cur hg ad m c news hl hnews h1 hroom hfit
      rw [hr2] at hr
      injection hr with hr _
      exact .inl (by rw [← hr]; rfl)
    · have holds : ∀ j u, xs[j]? = some u → w.cell? ((⟨g, 0, none⟩ : Addr).add j) = some u := hown.cells (g := g) rfl
      have hr2 := run_append_grow (P := P) w t ty e i z ht hi hz ⟨g, 0, none⟩ n cap xs hown.1 holds ad m c news hl hnews (by omega) (by omega) (growslice_fits (by omega) hbytes)
      rw [hr2] at hr
      injection hr with hr _
      exact .inr (by rw [← hr]; rfl)
theorem app_row (hw : Region.wanted o (yielded ops a.tmps) = true) (s x : Operand) (t : TypeId)
    (ho : o.op = .call { callee := .builtin .append, args := #[s, x], argTypes := #[t, t] })
    (e : TypeId) (i : TypeInfo) (z : Value) (size bytes : Nat) (ht : P.underlying t = some (.slice e)) (hi : P.info? e = some i) (hz : i.zero = some z)
    (hsize : i.size = size) (hby : i.bytes = bytes) (hzs : z.cells.size = size) (hsz : 0 < size)
    (v : Value) (n : Nat) (xs : List Value) (hs : a.eval s = v) (hown : w.ownsRow 0 e size v n xs)
    (ad : Addr) (m c : Nat) (news : List Value) (hx : a.eval x = .slice (some ad) m c) (hl : news.length = m * size) (hnews : ∀ j u, news[j]? = some u → w.cell? (ad.add j) = some u) (h1 : ∀ u ∈ news, u.oneCell' = true)
    (h63 : n + m ≤ maxLen) (hbytes : (n + m) * bytes ≤ 140737488355328)
    (h : ∀ v' w', w'.ownsRow 0 e size v' (n + m) (xs ++ news) → w.grownBy w' v.ownBlock → Lies v v' w → wpList P ops Q rest (a.put o.dst v') w') : wpList P ops Q (o :: rest) a w := by
  refine wpList_step fun K hK => ?_
  rw [if_pos hw]
  obtain ⟨v', w', hr, h2, h3, _⟩ := run_append_own (P := P) w 0 t o.type e i z size bytes ht hi hz hsize hby hzs hsz v n xs hown ad m c news hl hnews h1 h63 hbytes (Nat.zero_le _)
  have h4 := append_lies (P := P) (w := w) t o.type e i z size bytes ht hi hz hsize hby v n xs hown ad m c news hl hnews h1 h63 hbytes hr
  unfold Oper.wp execOp
  simp only [ho, resolve, invoke, builtin, Sem.run_bind, Sem.run_pure, Result.andThen_ok, List.map_toArray, List.map_cons, List.map_nil, hs, hx, hr]
  exact hK _ _ (h v' w' h2 h3 h4)
end
end Go.Cour
/- Memory as a list of things side by side; what a call may change. -/
namespace Go.Cour
open Go.RowKit
/-- Something that is said of some blocks of memory. -/
structure Ent where
  F : Nat → Prop
  p : World → Prop
  lt : ∀ {w}, p w → ∀ k, F k → k < w.heap.size
  kept : ∀ {w w'}, p w → (∀ k, F k → w'.heap[k]? = w.heap[k]?) → p w'
def Ent.blk (g : Nat) (t : TypeId) (cs : List Value) : Ent where
  F := fun k => k = g
  p := fun w => Blk w g t cs
  lt := fun h k hk => hk ▸ h.lt
  kept := fun h hk => (hk g rfl).trans h
def Ent.own (e : TypeId) (k : IntKind) (v : Value) (xs : List Int) : Ent where
  F := fun j => v.ownBlock = some j
  p := fun w => Own w 0 e k v xs
  lt := fun h j hj => h.lt_size j hj
  kept := fun h hk => h.kept' hk
def Ent.ha {α : Type} (H : HA α) (F : Nat → Prop) (v : Value) (x : α) : Ent where
  F := F
  p := fun w => H.at_ w F v x
  lt := fun h k hk => H.lt h k hk
  kept := fun h hk => H.kept h hk
/-- Things side by side. -/
def Mem (w : World) : List Ent → Prop
  | [] => True
  | e :: L => e.p w ∧ (∀ f ∈ L, ∀ k, e.F k → ¬ f.F k) ∧ Mem w L
section
variable {w w' : World} {L : List Ent} {e e' : Ent}
theorem Mem.get : ∀ {L : List Ent} {i : Nat} {e : Ent}, Mem w L → L[i]? = some e → e.p w
  | _ :: _, 0, _, h, hi => by simp at hi; exact hi ▸ h.1
  | _ :: L, i + 1, _, h, hi => Mem.get h.2.2 (by simpa using hi)
  | [], _, _, _, hi => by simp at hi
theorem Mem.keptAll : ∀ {L : List Ent}, Mem w L → (∀ e ∈ L, ∀ k, e.F k → w'.heap[k]? = w.heap[k]?) → Mem w' L
  | [], _, _ => trivial
  | e :: _, h, hk => ⟨e.kept h.1 (hk e (by simp)), h.2.1, Mem.keptAll h.2.2 fun f hf => hk f (by simp [hf])⟩
theorem Mem.lt (h : Mem w L) (he : e ∈ L) (k : Nat) (hk : e.F k) : k < w.heap.size := by
  obtain ⟨i, hi⟩ := List.getElem?_of_mem he
  exact e.lt (h.get hi) k hk
theorem Mem.apart : ∀ {L : List Ent} {i j : Nat} {e f : Ent}, Mem w L → L[i]? = some e → L[j]? = some f → i ≠ j → ∀ k, e.F k → ¬ f.F k
  | _ :: _, 0, 0, _, _, _, _, _, hn => absurd rfl hn
  | _ :: L, 0, j + 1, e, f, h, hi, hj, _ => by
    simp at hi hj; subst hi
    exact h.2.1 f (List.mem_of_getElem? hj)
  | _ :: L, i + 1, 0, e, f, h, hi, hj, _ => by
    simp at hi hj; subst hj
    exact fun k hk hf => h.2.1 e (List.mem_of_getElem? hi) k hf hk
  | _ :: L, i + 1, j + 1, e, f, h, hi, hj, hn => Mem.apart h.2.2 (by simpa using hi) (by simpa using hj) (by omega)
  | [], _, _, _, _, _, hi, _, _ => by simp at hi
theorem Mem.erase : ∀ {L : List Ent} (i : Nat), Mem w L → Mem w (L.eraseIdx i)
  | [], _, h => by simpa using h
  | _ :: _, 0, h => h.2.2
  | e :: L, i + 1, h => ⟨h.1, fun f hf => h.2.1 f (List.mem_of_mem_eraseIdx hf), Mem.erase i h.2.2⟩
/-- What a call may have changed (F, and what is new), and what there is, side by side. -/
structure HS (F : Nat → Prop) (w0 w : World) (L : List Ent) : Prop where
  upd : Upd F w0 w
  mem : Mem w L
  own : ∀ e ∈ L, ∀ k, e.F k → F k ∨ w0.heap.size ≤ k
variable {F : Nat → Prop} {w0 : World}
theorem HS.start (F : Nat → Prop) (w : World) : HS F w w [] := ⟨Upd.refl _ _, trivial, fun _ h => by simp at h⟩
theorem HS.get (h : HS F w0 w L) {i : Nat} (hi : L[i]? = some e) : e.p w := h.mem.get hi
theorem HS.blk (h : HS F w0 w L) (i : Nat) {g : Nat} {t : TypeId} {cs : List Value} (hi : L[i]? = some (.blk g t cs)) : Blk w g t cs := h.mem.get hi
theorem HS.ha (h : HS F w0 w L) (i : Nat) {α : Type} {H : HA α} {G : Nat → Prop} {v : Value} {x : α} (hi : L[i]? = some (.ha H G v x)) : H.at_ w G v x := h.mem.get hi
theorem HS.size (h : HS F w0 w L) : w0.heap.size ≤ w.heap.size := h.upd.size
theorem HS.below (h : HS F w0 w L) (hb : Below w.heap.size w w') : HS F w0 w' L :=
  ⟨h.upd.trans (Upd.of_below hb F) fun _ _ hk => hk, h.mem.keptAll fun e he k hk => hb.block k (h.mem.lt he k hk), h.own⟩
theorem HS.drew (h : HS F w0 w L) : HS F w0 w.drew L := h.below (below_drewN (Below.refl _ _) 1)
theorem HS.drewN (h : HS F w0 w L) (n : Nat) : HS F w0 (w.drewN n) L := h.below (below_drewN (Below.refl _ _) n)
/-- A new thing. -/
theorem HS.push (h : HS F w0 w L) (hb : Below w.heap.size w w') (e : Ent) (he : e.p w') (hn : ∀ k, e.F k → w.heap.size ≤ k) : HS F w0 w' (e :: L) :=
  ⟨(h.below hb).upd, ⟨he, fun f hf k hk hfk => by have := hn k hk; have := h.mem.lt hf k hfk; omega, (h.below hb).mem⟩, fun f hf k hk => by
    rcases List.mem_cons.1 hf with rfl | hf
    · exact .inr (Nat.le_trans h.size (hn k hk))
    · exact h.own f hf k hk⟩
theorem HS.pushBlk (h : HS F w0 w L) (hb : Below w.heap.size w w') {g : Nat} {t : TypeId} {cs : List Value} (he : Blk w' g t cs) (hg : w.heap.size = g) : HS F w0 w' (.blk g t cs :: L) :=
  h.push hb _ he fun k hk => by have : k = g := hk; omega
theorem HS.alloc (h : HS F w0 w L) (t : TypeId) (cs : List Value) {g : Nat} (hg : w.heap.size = g) : HS F w0 (w.alloc (.cells cs.toArray t)) (.blk g t cs :: L) :=
  h.pushBlk ((Below.refl _ _).alloc (Nat.le_refl _) _) (hg ▸ Blk.new _ _ _) hg
/-- A thing that was there at the begin, and may be changed. -/
theorem HS.take (h : HS F w0 w L) (e : Ent) (he : e.p w) (hF : ∀ k, e.F k → F k ∨ w0.heap.size ≤ k) (hd : ∀ f ∈ L, ∀ k, e.F k → ¬ f.F k) : HS F w0 w (e :: L) :=
  ⟨h.upd, ⟨he, hd, h.mem⟩, fun f hf => by
    rcases List.mem_cons.1 hf with rfl | hf
    · exact hF
    · exact h.own f hf⟩
theorem Mem.set1 : ∀ {L : List Ent} {i : Nat} {e e' : Ent} {w w' : World}, Mem w L → L[i]? = some e → (∀ k, k < w.heap.size → ¬ e.F k → w'.heap[k]? = w.heap[k]?) → e'.p w' → (∀ k, e'.F k → e.F k ∨ w.heap.size ≤ k) → Mem w' (L.set i e')
  | e :: L, 0, _, e', w, w', h, hi, hk, he', hF => by
    simp at hi; subst hi
    refine ⟨he', fun f hf k hk' hfk => ?_, Mem.keptAll h.2.2 fun f hf k hfk => hk k (h.2.2.lt hf k hfk) fun hek => h.2.1 f hf k hek hfk⟩
    rcases hF k hk' with h1 | h1
    · exact h.2.1 f hf k h1 hfk
    · have := h.2.2.lt hf k hfk; omega
  | e0 :: L, i + 1, e, e', w, w', h, hi, hk, he', hF => by
    have hi' : L[i]? = some e := by simpa using hi
    have hmem := List.mem_of_getElem? hi'
    refine ⟨e0.kept h.1 fun k hk0 => hk k (e0.lt h.1 k hk0) (h.2.1 e hmem k hk0), fun f hf k hk0 hfk => ?_, Mem.set1 h.2.2 hi' hk he' hF⟩
    rcases List.mem_or_eq_of_mem_set hf with hf | rfl
    · exact h.2.1 f hf k hk0 hfk
    · rcases hF k hfk with h1 | h1
      · exact h.2.1 e hmem k hk0 h1
      · have := e0.lt h.1 k hk0; omega
  | [], _, _, _, _, _, _, hi, _, _, _ => by simp at hi
/-- One thing has become another one; all others stand. -/
theorem HS.upd1 (h : HS F w0 w L) (i : Nat) (hi : L[i]? = some e) (hu : Upd e.F w w') (e' : Ent) (he' : e'.p w') (hF : ∀ k, e'.F k → e.F k ∨ w.heap.size ≤ k) : HS F w0 w' (L.set i e') := by
  have hmem := List.mem_of_getElem? hi
  refine ⟨⟨hu.os.trans h.upd.os, hu.tape.trans h.upd.tape, hu.output.trans h.upd.output, Nat.le_trans h.size hu.size, fun k hk hf => ?_⟩, h.mem.set1 hi hu.block he' hF, fun f hf k hfk => ?_⟩
  · refine (hu.block k (Nat.lt_of_lt_of_le hk h.size) fun hek => ?_).trans (h.upd.block k hk hf)
    rcases h.own e hmem k hek with h1 | h1
    · exact hf h1
    · omega
  · rcases List.mem_or_eq_of_mem_set hf with hf | rfl
    · exact h.own f hf k hfk
    · rcases hF k hfk with h1 | h1
      · exact h.own e hmem k h1
      · exact .inr (Nat.le_trans h.size h1)
theorem HS.erase (h : HS F w0 w L) (i : Nat) : HS F w0 w (L.eraseIdx i) := ⟨h.upd, h.mem.erase i, fun e he => h.own e (List.mem_of_mem_eraseIdx he)⟩
theorem HS.setCell (h : HS F w0 w L) (i : Nat) {g : Nat} {t : TypeId} {cs : List Value} (hi : L[i]? = some (.blk g t cs)) (j : Nat) (v : Value) : HS F w0 (w.setCell ⟨g, j, none⟩ v) (L.set i (.blk g t (cs.set j v))) :=
  h.upd1 i hi ((Upd.setCell w ⟨g, j, none⟩ v).mono fun _ _ hk => hk) _ ((h.blk i hi).set j v) fun k hk => .inl hk
theorem HS.setI (h : HS F w0 w L) (i : Nat) {g : Nat} {t : TypeId} {k : IntKind} {xs : List Int} (hi : L[i]? = some (.blk g t (ints k xs))) (j : Nat) (x : Int) : HS F w0 (w.setCell ⟨g, j, none⟩ (.int k x)) (L.set i (.blk g t (ints k (xs.set j x)))) := by
  have := h.setCell i hi j (.int k x)
  rwa [ints_set] at this
theorem HS.setRow (h : HS F w0 w L) (i : Nat) {g : Nat} {t : TypeId} {cs : List Value} (hi : L[i]? = some (.blk g t cs)) (cs' : List Value) : HS F w0 (w.setRow g cs'.toArray) (L.set i (.blk g t cs')) :=
  h.upd1 i hi ((Upd.setRow w g cs'.toArray).mono fun _ _ hk => hk) _ ((h.blk i hi).setRow cs') fun k hk => .inl hk
/-- What was there, and may not be changed, reads as it did. -/
theorem HS.old (h : HS F w0 w L) {k : Nat} (hk : k < w0.heap.size) (hF : ¬ F k) : w.heap[k]? = w0.heap[k]? := h.upd.block k hk hF
theorem HS.oldCell (h : HS F w0 w L) {g i : Nat} {v : Value} (hc : w0.cell? ⟨g, i, none⟩ = some v) (hF : ¬ F g) : w.cell? ⟨g, i, none⟩ = some v := by
  rw [← hc]; have := h.old (lt_of_cell hc) hF; simp only [World.cell?, this]
theorem HS.oldRd (h : HS F w0 w L) {A : Option Addr} {k : IntKind} {xs : List Int} (hr : Rd w0 A k xs) (hF : ∀ a, A = some a → xs ≠ [] → ¬ F a.block) : Rd w A k xs := hr.upd h.upd hF
theorem HS.oldBlk (h : HS F w0 w L) {g : Nat} {t : TypeId} {cs : List Value} (hb : Blk w0 g t cs) (hF : ¬ F g) : Blk w g t cs := (h.old hb.lt hF).trans hb
/-- Nothing but what is new was changed. -/
theorem HS.bel (h : HS NoF w0 w L) : Below w0.heap.size w0 w := h.upd.below (Nat.le_refl _) fun _ hk => hk.elim
theorem HS.frozen (h : HS F w0 w L) (i : Nat) {g : Nat} {t : TypeId} {cs : List Value} (hi : L[i]? = some (.blk g t cs)) (j : Nat) : w.frozen? ⟨g, j, none⟩ = false := (h.blk i hi).frozen j
theorem HS.cellI (h : HS F w0 w L) (i : Nat) {g : Nat} {t : TypeId} {k : IntKind} {xs : List Int} (hi : L[i]? = some (.blk g t (ints k xs))) (j : Nat) (hj : j < xs.length) : w.cell? ⟨g, j, none⟩ = some (.int k (rd xs j)) := (h.blk i hi).cellI j hj
theorem HS.cell (h : HS F w0 w L) (i : Nat) {g : Nat} {t : TypeId} {cs : List Value} (hi : L[i]? = some (.blk g t cs)) (j : Nat) : w.cell? ⟨g, j, none⟩ = cs[j]? := (h.blk i hi).cell j
end
end Go.Cour
/- s[f:], and copy over what one owns. -/
namespace Go.Cour
open Go.RowKit
section
variable {P : Program} {w : World} {ops : Array Oper} {rest : List Oper} {o : Oper} {a : Act} {Q : Exit → Act → World → Prop}
/-- Where s[f:] begins. -/
def cutA (A : Option Addr) (c f : Nat) : Option Addr := if c = f then A else A.map (·.add f)
/-- What stands behind copy(s[f:], ys). -/
def laid (xs : List Int) (f n : Nat) (ys : List Int) : List Int := xs.take f ++ ys.take n ++ xs.drop (f + n)
end
end Go.Cour
/- courierref.Bytes: a copy. -/
namespace Go.Proofs.YtlikinglgegclaaDoor
open Go.RowKit Go.Cour
theorem make_cap {P : Program} (t e : TypeId) (z : Value) (bytes : Nat) (ht : P.underlying t = some (.slice e)) (hinfo : (P.info? e).map (fun i => (i.zero, i.size, i.bytes)) = some (some z, 1, bytes)) (hz1 : z.cells = #[z])
    (kl kc : IntKind) (n : Nat) (hbytes : bytes * n ≤ 281474976710656) (h63 : n ≤ 9223372036854775807) (w : World) :
    (Instr.makeSlice t (.int kl 0) (.int kc (n : Int))).run P w = .ok (.slice (some ⟨w.heap.size, 0, none⟩) 0 n) (w.alloc (.cells (madeCells #[z] n) e)) := by
  obtain ⟨i, hi, hzz⟩ := Option.map_eq_some_iff.1 hinfo
  simp only [Prod.mk.injEq] at hzz
  obtain ⟨hz, hs, hb⟩ := hzz
  have hb' : (i.bytes : Int) * (n : Int) ≤ 281474976710656 := by
    have h : ((i.bytes * n : Nat) : Int) ≤ 281474976710656 := by rw [hb]; omega
    rwa [Int.natCast_mul] at h
  have hr := run_make (P := P) w t e i z ht hi hz kl kc 0 n (Int.le_refl _) (by omega) hb' (by omega)
  simp only [Int.toNat_natCast, hs, Nat.mul_one, hz1] at hr
  exact hr
set_option maxHeartbeats 1000000 in
set_option maxRecDepth 100000 in
theorem bytes_calls (xs : List Int) (A : Option Addr) (c m : Nat) (w : World) (hm : m = xs.length) (hr : Rd w A .u8 xs) (hl : m ≤ 1000000) :
    Calls Tryd.prog 23 #[.slice A m c] w fun e w' => ∃ v, e = .returned v ∧ Own w' w.heap.size 5 .u8 v xs ∧ Below w.heap.size w w' := by
  have HM := hid hm
  have HR := hid hr
  clear hm hr
  have hmk := make_cap (P := Tryd.prog) 24 5 (.int .u8 0) 1 undBytes infoU8 rfl .i64 .i64 m (by omega) (by omega)
  go_enter Tryd.func23, Tryd.ntmps23
  go_wp2_with fail
  clear hmk
  have h0 : Own (w.alloc (.cells (madeCells #[.int .u8 0] m) 5)) w.heap.size 5 .u8 (.slice (some ⟨w.heap.size, 0, none⟩) 0 m) [] :=
    ⟨by simp [ints], .inr ⟨w.heap.size, m, _, rfl, Nat.le_refl _, heap_alloc_new w _, Nat.zero_le _, by unfold maxLen; omega, by rw [made_ints]; simp, by simp [ints]⟩⟩
  have hB0 : Below w.heap.size w (w.alloc (.cells (madeCells #[.int .u8 0] m) 5)) := (Below.refl _ _).alloc (Nat.le_refl _) _
  generalize w.alloc (.cells (madeCells #[.int .u8 0] m) 5) = w1 at *
  go_loopg [3, 4] (m + 1) (fun kq v3 v4 wr => ∃ i : Nat, i ≤ m ∧ v4 = .int .i64 i ∧ Hd (kq + i = m + 1) ∧ Own wr w.heap.size 5 .u8 v3 (xs.take i) ∧ Below w.heap.size w wr)
  case atStart => exact ⟨0, by omega, rfl, hid (by omega), h0, hB0⟩
  case round =>
    clear h0 hB0
    obtain ⟨i, hi, rfl, hq, ho, hB⟩ := hrel
    obtain ⟨ts, hts⟩ : ∃ ts, Hd (xs.take i = ts) := ⟨_, ⟨rfl⟩⟩
    rw [hts.out] at ho
    have htl : Hd (ts.length = i) := hid (by rw [← hts.out, List.length_take, ← HM.out]; omega)
    by_cases hlt : i < m
    · obtain ⟨g, o, rfl⟩ := HR.out.at (by rw [← HM.out]; omega)
      have cx := (HR.out.below hB).cellAt i (by rw [← HM.out]; omega)
      have a1 : (i : Int) < m := by omega
      obtain ⟨x, hx⟩ : ∃ x, Hd (x = rd xs i) := ⟨_, hid rfl⟩
      rw [← hx.out] at cx
      have hts1 : Hd (ts ++ [x] = xs.take (i + 1)) := hid (by
        rw [← hts.out, hx.out, List.take_add_one]
        congr 1
        have hlx : i < xs.length := by rw [← HM.out]; exact hlt
        rw [List.getElem?_eq_getElem hlx]
        simp [rd, hlx])
      go_wp2_with (first
        | (at_builtin; refine append_one rfl (.tmp 14) (.tmp 19) 24 rfl w.heap.size 5 .u8 1 undBytes infoU8 _ ts rfl ho x rfl (by rw [htl.out]; omega) (by rw [htl.out]; omega) hB.size ?_; intro v' w2 ho' hg'; rw [hts1.out] at ho')
        | fail)
      go_roundg (gk - 1)
      case measure => have := hq.out; omega
      case rel => exact ⟨i + 1, by omega, by go_num, hid (by have := hq.out; omega), ho', ho.grown_below hB hg' hB.size (Nat.le_refl _)⟩
    · obtain rfl : i = m := by omega
      have hte : Hd (ts = xs) := hid (by rw [← hts.out, List.take_of_length_le (by rw [← HM.out]; omega)])
      go_wp2_with fail
      go_ret
      rw [hte.out] at ho
      exact ⟨_, rfl, ho, hB⟩
end Go.Proofs.YtlikinglgegclaaDoor
/- courierref.Bytes: see Bytes. -/
/- Texts, listed in memory: read. -/
namespace Go.Proofs.YtlikinglgegclaaDoor
open Go.RowKit Go.Cour
/-- Texts, listed. -/
def PRd (w : World) (A : Option Addr) (xss : List (List Int)) : Prop := xss = [] ∨ ∃ g o, A = some ⟨g, o, none⟩ ∧ ∀ (i : Nat) (X : List Int), xss[i]? = some X → ∃ Ai ci, w.cell? ⟨g, o + i, none⟩ = some (.slice Ai X.length ci) ∧ Rd w Ai .u8 X
theorem PRd.below {w w' : World} {A : Option Addr} {xss : List (List Int)} (h : PRd w A xss) (hb : Below w.heap.size w w') : PRd w' A xss := by
  rcases h with h | ⟨g, o, h1, h2⟩
  · exact .inl h
  · refine .inr ⟨g, o, h1, fun i X hi => ?_⟩
    obtain ⟨Ai, ci, h3, h4⟩ := h2 i X hi
    exact ⟨Ai, ci, (hb.cell (lt_of_cell h3)).trans h3, h4.below hb⟩
theorem PRd.at {w : World} {A : Option Addr} {xss : List (List Int)} (h : PRd w A xss) (i : Nat) (hi : i < xss.length) : ∃ g o X Ai ci, A = some ⟨g, o, none⟩ ∧ xss[i]? = some X ∧ w.cell? ⟨g, o + i, none⟩ = some (.slice Ai X.length ci) ∧ Rd w Ai .u8 X := by
  rcases h with h | ⟨g, o, h1, h2⟩
  · subst h; simp at hi
  · obtain ⟨Ai, ci, h3, h4⟩ := h2 i _ (List.getElem?_eq_getElem hi)
    exact ⟨g, o, _, Ai, ci, h1, List.getElem?_eq_getElem hi, h3, h4⟩
theorem ownL_prd {w : World} {b : Nat} {e : TypeId} {v : Value} {xss : List (List Int)} (h : OwnL w b e 5 .u8 v xss) : ∃ A c, v = .slice A xss.length c ∧ xss.length ≤ c ∧ PRd w A xss := by
  obtain ⟨cs, hv, hl, hr⟩ := h
  obtain ⟨A, c, rfl, hc, hA, hcell⟩ := hv.parts
  refine ⟨A, c, by rw [hl], by omega, ?_⟩
  by_cases h0 : xss = []
  · exact .inl h0
  · have hpos : 0 < xss.length := List.length_pos_iff.2 h0
    obtain ⟨g, hA2, _⟩ := hcell 0 (by omega)
    refine .inr ⟨g, 0, hA2, fun i X hi => ?_⟩
    have hil := (List.getElem?_eq_some_iff.1 hi).1
    obtain ⟨g', hA3, hce⟩ := hcell i (by omega)
    rw [hA2] at hA3
    injection hA3 with hA3; injection hA3 with hA3
    subst hA3
    have h1 := hr i hil
    have e1 : xss.getD i [] = X := by rw [List.getD_eq_getElem?_getD, hi]; rfl
    have e2 : cs[i]? = some (cs.getD i undef) := by rw [List.getD_eq_getElem?_getD, List.getElem?_eq_getElem (by omega)]; rfl
    rw [e1] at h1
    obtain ⟨Ai, ci, h2, _, _, h5⟩ := h1.slice
    exact ⟨Ai, ci, by rw [Nat.zero_add, hce, e2, h2], h5⟩
end Go.Proofs.YtlikinglgegclaaDoor
