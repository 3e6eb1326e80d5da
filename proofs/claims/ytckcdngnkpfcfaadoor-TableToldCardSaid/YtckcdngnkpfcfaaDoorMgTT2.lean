import Derived.Great.BuildSlice
import Derived.Great.FillDense
import Derived.LaidEql
import Derived.Test.YtckcdngnkpfcfaaDoorProg
import Derived.StillTailTactics
import Derived.Deep.QuietTactic
import Derived.BigQuiet
import Derived.Laws.Closers25b
import Derived.Test.YtckcdngnkpfcfaaDoorMgTT0
import Derived.Test.YtckcdngnkpfcfaaDoorMgTT1
set_option linter.unusedSimpArgs false
set_option linter.unusedVariables false
/- Rows of several cells, one's own. -/
namespace Go.Cour
open Go.RowKit
/-- The slice value v, of rows of s cells each, is one's own. -/
def OwnA (w : World) (e : TypeId) (s : Nat) (v : Value) (rows : List (List Value)) : Prop := w.ownsRow 0 e s v rows.length rows.flatten ∧ ∀ r ∈ rows, r.length = s
theorem OwnA.nil (w : World) (e : TypeId) (s : Nat) : OwnA w e s (.slice none 0 0) [] := ⟨World.ownsRow_nil w 0 e s, fun _ h => by cases h⟩
theorem OwnA.below {w w' : World} {e : TypeId} {s : Nat} {v : Value} {rows : List (List Value)} (h : OwnA w e s v rows) (hb : Below w.heap.size w w') : OwnA w' e s v rows := by
  refine ⟨⟨h.1.1, ?_⟩, h.2⟩
  rcases h.1.2 with h2 | ⟨g, cap, cur, rfl, hg, hh, r⟩
  · exact .inl h2
  · exact .inr ⟨g, cap, cur, rfl, hg, (hb.block g (Array.getElem?_eq_some_iff.1 hh).1).trans hh, r⟩
theorem OwnA.kept {w w' : World} {e : TypeId} {s : Nat} {v : Value} {rows : List (List Value)} (h : OwnA w e s v rows) (hk : ∀ j, v.ownBlock = some j → w'.heap[j]? = w.heap[j]?) : OwnA w' e s v rows := by
  refine ⟨⟨h.1.1, ?_⟩, h.2⟩
  rcases h.1.2 with h2 | ⟨g, cap, cur, rfl, hg, hh, r⟩
  · exact .inl h2
  · exact .inr ⟨g, cap, cur, rfl, hg, (hk g rfl).trans hh, r⟩
theorem OwnA.lt_size {w : World} {e : TypeId} {s : Nat} {v : Value} {rows : List (List Value)} (h : OwnA w e s v rows) (j : Nat) (hj : v.ownBlock = some j) : j < w.heap.size := by
  rcases h.1.2 with ⟨rfl, _⟩ | ⟨g, cap, cur, rfl, hg, hh, r⟩
  · simp [Value.ownBlock] at hj
  · have : g = j := by simpa [Value.ownBlock] using hj
    subst this
    exact (Array.getElem?_eq_some_iff.1 hh).1
theorem flatten_get {s : Nat} : ∀ {rows : List (List Value)}, (∀ r ∈ rows, r.length = s) → ∀ (i j : Nat) (r : List Value), rows[i]? = some r → j < s → rows.flatten[i * s + j]? = r[j]?
  | [], _, i, j, r, h, _ => by simp at h
  | r0 :: rows, hl, 0, j, r, h, hj => by
    simp only [List.getElem?_cons_zero, Option.some.injEq] at h
    subst h
    have := hl r0 (by simp)
    rw [List.flatten_cons, Nat.zero_mul, Nat.zero_add, List.getElem?_append_left (by omega)]
  | r0 :: rows, hl, i + 1, j, r, h, hj => by
    have h0 := hl r0 (by simp)
    have ih := flatten_get (s := s) (rows := rows) (fun r hr => hl r (by simp [hr])) i j r (by simpa using h) hj
    rw [List.flatten_cons, Nat.succ_mul, List.getElem?_append_right (by omega), ← ih]
    congr 1; omega
/-- Where its rows lie. -/
theorem OwnA.parts {w : World} {e : TypeId} {s : Nat} {v : Value} {rows : List (List Value)} (h : OwnA w e s v rows) : ∃ A c, v = .slice A rows.length c ∧ rows.length ≤ c ∧
    ∀ i r, rows[i]? = some r → ∃ g, A = some ⟨g, 0, none⟩ ∧ ∀ j u, r[j]? = some u → w.cell? ⟨g, i * s + j, none⟩ = some u := by
  obtain ⟨⟨h1, h2⟩, h3⟩ := h
  rcases h2 with ⟨rfl, h2⟩ | ⟨g, cap, cur, rfl, hg, hh, hn, hm, hs, ht⟩
  · exact ⟨none, 0, by rw [h2], by omega, fun i r hr => by have := (List.getElem?_eq_some_iff.1 hr).1; omega⟩
  · refine ⟨_, cap, rfl, hn, fun i r hr => ⟨g, rfl, fun j u hu => ?_⟩⟩
    have hl := (List.getElem?_eq_some_iff.1 hr).1
    have hrs := h3 r (List.mem_of_getElem? hr)
    have hj : j < s := by have := (List.getElem?_eq_some_iff.1 hu).1; omega
    have hc : w.cell? ⟨g, i * s + j, none⟩ = cur[i * s + j]? := cell_of_row w g _ cur e (0, 0) hh
    have h4 := flatten_get h3 i j r hr hj
    rw [← ht, List.getElem?_take, if_pos (by
      have : (i + 1) * s ≤ rows.length * s := Nat.mul_le_mul_right _ hl
      rw [Nat.succ_mul] at this; omega)] at h4
    rw [hc, ← Array.getElem?_toList, h4, hu]
section
variable {P : Program} {w : World} {ops : Array Oper} {rest : List Oper} {o : Oper} {a : Act} {Q : Exit → Act → World → Prop}
/-- A slice literal of one value of s cells. -/
theorem literal_agg (hw : Region.wanted o (yielded ops a.tmps) = true) (t e : TypeId) (x : Operand) (ho : o.op = .buildSlice t 1 #[(0, x)]) (cs : List Value) (s : Nat) (hx : (a.eval x).cells = cs.toArray) (hl : cs.length = s)
    (ht : P.underlying t = some (.slice e)) (hsz : (P.info? e).map (·.size) = some s) (hz : ((P.info? e).bind (·.zero)).isSome = true) (hpos : 0 < s) (hsmall : s ≤ 2 ^ 24)
    (h : ∀ (g : Nat) (w' : World), w.heap.size = g → Blk w' g e cs → Below w.heap.size w w' → w'.heap.size = g + 1 → wpList P ops Q rest (a.put o.dst (.slice (some ⟨g, 0, none⟩) 1 1)) w') :
    wpList P ops Q (o :: rest) a w := by
  have h2 := h w.heap.size _ rfl (Blk.new w e cs) ((Below.refl _ _).alloc (Nat.le_refl _) _) (by simp)
  cases hie : P.info? e with
  | none => simp [hie] at hsz
  | some ie =>
    simp only [hie, Option.map_some, Option.some.injEq, Option.bind_some] at hsz hz
    obtain ⟨z, hzz⟩ := Option.isSome_iff_exists.1 hz
    refine wpList_step fun K hK => ?_
    rw [if_pos hw]
    refine wp_buildSlice t e 1 _ ho cs.toArray ie z ht hie hzz (by rw [hsz]; omega) (by rw [hsz]; omega) ?_ (hK _ _ h2)
    rw [hsz]
    obtain ⟨r, hr, hs2, hk⟩ := Great.fill_dense hpos [a.eval x] 0 ((Array.range (1 * s)).map (z.cells[· % z.cells.size]!)) (fun v hv => by rw [List.mem_singleton.1 hv, hx]; simpa using hl) (by simp)
    have he : (#[(0, x)].map fun (i, x) => (i, a.eval x)).toList = (([a.eval x] : List Value).zipIdx 0).map fun x => (x.2, x.1) := by simp
    rw [he, hr]
    congr 1
    apply Array.ext_getElem?
    intro k
    rw [hk k]
    by_cases hlt : k < s
    · rw [if_pos (by simp; omega)]
      have h1 : k / s = 0 := Nat.div_eq_of_lt hlt
      have h3 : k % s = k := Nat.mod_eq_of_lt hlt
      simp [h1, h3, hx]
    · rw [if_neg (by simp; omega)]
      simp [List.getElem?_eq_none (show cs.length ≤ k by omega)]
      omega
/-- One row more. -/
theorem app_agg (hw : Region.wanted o (yielded ops a.tmps) = true) (s x : Operand) (t : TypeId)
    (ho : o.op = .call { callee := .builtin .append, args := #[s, x], argTypes := #[t, t] })
    (e : TypeId) (n bytes : Nat) (ht : P.underlying t = some (.slice e)) (hi : (P.info? e).map (fun i => (i.zero.map (·.cells.size), i.size, i.bytes)) = some (some n, n, bytes)) (hn : 0 < n)
    (v : Value) (rows : List (List Value)) (hs : a.eval s = v) (hown : OwnA w e n v rows)
    (g : Nat) (r : List Value) (hx : a.eval x = .slice (some ⟨g, 0, none⟩) 1 1) (hg : Blk w g e r) (hl : r.length = n) (h1 : ∀ u ∈ r, u.oneCell' = true)
    (hbytes : (rows.length + 1) * bytes ≤ 140737488355328) (h63 : rows.length + 1 ≤ 140737488355328)
    (h : ∀ v' w', OwnA w' e n v' (rows ++ [r]) → w.grownBy w' v.ownBlock → Lies v v' w → wpList P ops Q rest (a.put o.dst v') w') :
    wpList P ops Q (o :: rest) a w := by
  cases hie : P.info? e with
  | none => simp [hie] at hi
  | some i =>
    cases hz : i.zero with
    | none => simp [hie, hz] at hi
    | some z =>
      simp [hie, hz] at hi
      refine app_row hw s x t ho e i z n bytes ht hie hz hi.2.1 hi.2.2 hi.1 hn v rows.length rows.flatten hs hown.1 ⟨g, 0, none⟩ 1 1 r hx (by omega) ?_ h1 (by unfold maxLen; omega) hbytes ?_
      · intro j u' hj
        rw [add_lit, Nat.zero_add, hg.cell]
        exact hj
      · intro v' w' h2 h3 h4
        refine h v' w' ⟨?_, fun q hq => ?_⟩ h3 h4
        · rw [List.length_append, List.flatten_append]
          simpa using h2
        · rcases List.mem_append.1 hq with hq | hq
          · exact hown.2 q hq
          · rw [List.mem_singleton.1 hq]; exact hl
end
end Go.Cour
/- Rows of several cells beside other things: appended to, cut. -/
namespace Go.Cour
open Go.RowKit
def Ent.oa (e : TypeId) (s : Nat) (v : Value) (rows : List (List Value)) : Ent where
  F := fun j => v.ownBlock = some j
  p := fun w => OwnA w e s v rows
  lt := fun h j hj => h.lt_size j hj
  kept := fun h hk => h.kept hk
section
variable {P : Program} {ops : Array Oper} {rest : List Oper} {o : Oper} {a : Act} {w w0 : World} {Q : Exit → Act → World → Prop} {F : Nat → Prop} {L : List Ent}
theorem HS.oa (h : HS F w0 w L) (i : Nat) {e : TypeId} {s : Nat} {v : Value} {rows : List (List Value)} (hi : L[i]? = some (.oa e s v rows)) : OwnA w e s v rows := h.mem.get hi
/-- One row more. -/
theorem hs_appA (hS : HS F w0 w L) (i : Nat) {e : TypeId} {n : Nat} {v : Value} {rows : List (List Value)} (hi : L[i]? = some (.oa e n v rows)) (hw : Region.wanted o (yielded ops a.tmps) = true) (s x : Operand) (t : TypeId)
    (ho : o.op = .call { callee := .builtin .append, args := #[s, x], argTypes := #[t, t] }) (bytes : Nat) (ht : P.underlying t = some (.slice e)) (hf : (P.info? e).map (fun i => (i.zero.map (·.cells.size), i.size, i.bytes)) = some (some n, n, bytes)) (hn : 0 < n)
    (hs : a.eval s = v) (g : Nat) (r : List Value) (hx : a.eval x = .slice (some ⟨g, 0, none⟩) 1 1) (hg : Blk w g e r) (hl : r.length = n) (h1 : ∀ u ∈ r, u.oneCell' = true)
    (hbytes : (rows.length + 1) * bytes ≤ 140737488355328) (h63 : rows.length + 1 ≤ 140737488355328) (d : Option Tmp) (hd : o.dst = d)
    (h : ∀ A' n' c' w', rows.length + 1 = n' → n' ≤ c' → HS F w0 w' (L.set i (.oa e n (.slice A' n' c') (rows ++ [r]))) → wpList P ops Q rest (a.put d (.slice A' n' c')) w') : wpList P ops Q (o :: rest) a w := by
  subst hd
  refine app_agg hw s x t ho e n bytes ht hf hn v rows hs (hS.oa i hi) g r hx hg hl h1 hbytes h63 ?_
  intro v' w' ho' hg' hl'
  have hu : Upd (fun j => v.ownBlock = some j) w w' := Upd.of_grown hg'
  obtain ⟨A', c', rfl, hc, _⟩ := ho'.parts
  refine h A' _ c' w' (by simp) hc ?_
  refine hS.upd1 i hi hu _ ho' (fun k hk => ?_)
  have hk' : (Value.slice A' (rows ++ [r]).length c').ownBlock = some k := hk
  rcases hl' with h2 | h2
  · exact .inl (by rw [h2] at hk'; exact hk')
  · rw [h2] at hk'
    injection hk' with hk'
    exact .inr (Nat.le_of_eq hk')
/-- s[:h]. -/
theorem slice_hiS (hw : Region.wanted o (yielded ops a.tmps) = true) (x z : Operand) (t : TypeId) (ho : o.op = .slice t x none (some z) none) (e : TypeId)
    (hu : P.underlying t = some (.slice e)) (s : Nat) (hsz : (P.info? e).map (·.size) = some s) (g off m c h : Nat) (hx : a.eval x = .slice (some ⟨g, off, none⟩) m c) (hz : a.eval z = .int .i64 (h : Int)) (hhc : h ≤ c) (hpc : 0 < c) (d : Option Tmp) (hd : o.dst = d)
    (hk : wpList P ops Q rest (a.put d (.slice (some ⟨g, off, none⟩) h c)) w) : wpList P ops Q (o :: rest) a w := by
  subst hd
  obtain ⟨i, hi, hs⟩ : ∃ i, P.info? e = some i ∧ i.size = s := by
    cases hie : P.info? e with
    | none => simp [hie] at hsz
    | some i => exact ⟨i, rfl, by simpa [hie] using hsz⟩
  refine wpList_step fun K hK => ?_
  rw [if_pos hw]
  have hs2 : (sizeOf e).run P w = .ok s w := by simp [sizeOf, typeInfo, hi, hs]
  have hne : ¬ c = 0 := by omega
  have hrun : (Instr.slice t (.slice (some ⟨g, off, none⟩) m c) none (some (.int .i64 (h : Int))) none).run P w = .ok (.slice (some ⟨g, off, none⟩) h c) w := by
    simp [Instr.slice, run_underlying hu, Instr.sliceBounds, run_sliceBound, hs2, hhc, hne, add_lit]
  have hrun2 : (Instr.sliceAt t (.slice (some ⟨g, off, none⟩) m c) none (some (.int .i64 (h : Int))) none).run P w = .ok (.slice (some ⟨g, off, none⟩) h c) w := by
    rw [← hrun]; simp [Instr.sliceAt, run_underlying hu]
  unfold Oper.wp execOp
  simp only [ho, hx, hz, Option.map_some, Option.map_none]
  simp [hrun2]
  exact hK _ _ hk
/-- s[p:]. -/
theorem slice_loS (hw : Region.wanted o (yielded ops a.tmps) = true) (x y : Operand) (t : TypeId) (ho : o.op = .slice t x (some y) none none) (e : TypeId)
    (hu : P.underlying t = some (.slice e)) (s : Nat) (hsz : (P.info? e).map (·.size) = some s) (g off m c p n : Nat) (hx : a.eval x = .slice (some ⟨g, off, none⟩) m c) (hy : a.eval y = .int .i64 (p : Int)) (hpm : p ≤ m) (hpc : p < c) (hn : m - p = n) (d : Option Tmp) (hd : o.dst = d)
    (hk : wpList P ops Q rest (a.put d (.slice (some ⟨g, off + p * s, none⟩) n (c - p))) w) : wpList P ops Q (o :: rest) a w := by
  subst hd hn
  obtain ⟨i, hi, hs⟩ : ∃ i, P.info? e = some i ∧ i.size = s := by
    cases hie : P.info? e with
    | none => simp [hie] at hsz
    | some i => exact ⟨i, rfl, by simpa [hie] using hsz⟩
  refine wpList_step fun K hK => ?_
  rw [if_pos hw]
  have hs2 : (sizeOf e).run P w = .ok s w := by simp [sizeOf, typeInfo, hi, hs]
  have hne : ¬ c = p := by omega
  have hrun : (Instr.slice t (.slice (some ⟨g, off, none⟩) m c) (some (.int .i64 (p : Int))) none none).run P w = .ok (.slice (some ⟨g, off + p * s, none⟩) (m - p) (c - p)) w := by
    simp [Instr.slice, run_underlying hu, Instr.sliceBounds, run_sliceBound, hs2, hpm, hne, add_lit]
  have hrun2 : (Instr.sliceAt t (.slice (some ⟨g, off, none⟩) m c) (some (.int .i64 (p : Int))) none none).run P w = .ok (.slice (some ⟨g, off + p * s, none⟩) (m - p) (c - p)) w := by
    rw [← hrun]; simp [Instr.sliceAt, run_underlying hu]
  unfold Oper.wp execOp
  simp only [ho, hx, hy, Option.map_some, Option.map_none]
  simp [hrun2]
  exact hK _ _ hk
end
end Go.Cour
/- Errors as pointers of their own: held against each other. -/
namespace Go.Proofs.YtckcdngnkpfcfaaDoor
open Go.RowKit Go.Cour
/-- An error of api's, by where it points. -/
def errV (a : Addr) : Value := .iface 184 (.pointer (some a))
/-- The variables, in the order in which they are numbered from 101 on. -/
def globs : List Nat := [6, 0, 5, 3, 7, 4, 8, 9, 10, 11, 12, 13, 14, 15, 2, 16, 17, 1, 18]
/-- Each variable holds an error of its own. -/
structure Errs (w : World) (P : Nat → Addr) : Prop where
  cell : ∀ i, i < 19 → w.cell? ⟨globs.getD i 0, 0, none⟩ = some (errV (P i))
  inj : ∀ i j, i < 19 → j < 19 → P i = P j → i = j
  froz : ∀ i, i < 19 → ∃ c t, w.heap[(P i).block]? = some (.cells c t (0, 0))
theorem Errs.below {w w' : World} {P : Nat → Addr} (h : Errs w P) (hb : Below w.heap.size w w') : Errs w' P := by
  refine ⟨fun i hi => ?_, h.inj, fun i hi => ?_⟩
  · have hc := h.cell i hi
    exact (hb.cell (lt_of_cell hc)).trans hc
  · obtain ⟨c, t, hf⟩ := h.froz i hi
    exact ⟨c, t, (hb.block _ (Array.getElem?_eq_some_iff.1 hf).1).trans hf⟩
theorem Errs.drewN {w : World} {P : Nat → Addr} (h : Errs w P) (n : Nat) : Errs (w.drewN n) P := ⟨h.cell, h.inj, h.froz⟩
/-- The two that opening tells. -/
def Errs2 (w : World) (P : Nat → Addr) : Prop := w.cell? ⟨5, 0, none⟩ = some (errV (P 2)) ∧ w.cell? ⟨10, 0, none⟩ = some (errV (P 8))
theorem Errs.two {w : World} {P : Nat → Addr} (h : Errs w P) : Errs2 w P := ⟨h.cell 2 (by omega), h.cell 8 (by omega)⟩
theorem Errs2.below {w w' : World} {P : Nat → Addr} (h : Errs2 w P) (hb : Below w.heap.size w w') : Errs2 w' P :=
  ⟨(hb.cell (lt_of_cell h.1)).trans h.1, (hb.cell (lt_of_cell h.2)).trans h.2⟩
theorem undErr : ∃ ms, Tryd.prog.underlying 36 = some (.interface ms) := ⟨_, Tryd.underlying36⟩
theorem undES : Tryd.prog.underlying 184 = some (.pointer 200) := by kernel_rfl
theorem compES : (Tryd.prog.info? 184).map (·.comparable) = some true := by kernel_rfl
theorem sizeES0 : (Tryd.prog.info? 200).map (·.size) = some 1 := by kernel_rfl
/-- Two of them, held against each other. -/
theorem err_eql {w : World} {P : Nat → Addr} (h : Errs w P) (i j : Nat) (hi : i < 19) (hj : j < 19) :
    (binOp .eql 36 (errV (P i)) (errV (P j))).run Tryd.prog w = .ok (.bool (decide (i = j))) w := by
  obtain ⟨ms, hms⟩ := undErr
  obtain ⟨ti, hti, hcmp⟩ := Option.map_eq_some_iff.1 compES
  obtain ⟨tj, htj, htjs⟩ := Option.map_eq_some_iff.1 sizeES0
  by_cases hij : i = j
  · subst hij
    rw [decide_eq_true rfl]
    exact run_eql_iface_ptr_same w (P i) hms undES hti hcmp htj
  · rw [decide_eq_false hij]
    obtain ⟨ci, t1, hci⟩ := h.froz i hi
    obtain ⟨cj, t2, hcj⟩ := h.froz j hj
    exact run_eql_iface_ptr_other w hms undES hti hcmp htj (by rw [htjs]; decide) (fun he => hij (h.inj i j hi hj he)) hci hcj
theorem err_nil_right (a : Addr) (w : World) : (binOp .eql 36 (errV a) .nilIface).run Tryd.prog w = .ok (.bool false) w := by
  obtain ⟨ms, hms⟩ := undErr
  have h : ∀ d : Nat, (Op.equalIn (d + 1) 36 (errV a) .nilIface).run Tryd.prog w = .ok false w := fun d => by simp [Op.equalIn, run_underlying hms, errV]
  simp only [binOp]
  simp [Op.equal, Op.maxDepth, h 9999]
theorem nil_nil (w : World) : (binOp .eql 36 .nilIface .nilIface).run Tryd.prog w = .ok (.bool true) w := by
  obtain ⟨ms, hms⟩ := undErr
  have h : ∀ d : Nat, (Op.equalIn (d + 1) 36 .nilIface .nilIface).run Tryd.prog w = .ok true w := fun d => by simp [Op.equalIn, run_underlying hms]
  simp only [binOp]
  simp [Op.equal, Op.maxDepth, h 9999]
theorem eqGuard_err (op : BinOp) (t : TypeId) (x y : Operand) (a : Addr) (v : Value) : eqGuard op t x y (errV a) v = pure () := by cases op <;> rfl
/-- api's errors, all of them below B. -/
structure ErrsAt (w : World) (P : Nat → Addr) (B : Nat) : Prop where
  errs : Errs w P
  glob : ∀ i, i < 19 → globs.getD i 0 < B
  at_ : ∀ i, i < 19 → (P i).block < B
theorem ErrsAt.of {w : World} {P : Nat → Addr} (h : Errs w P) : ErrsAt w P w.heap.size :=
  ⟨h, fun i hi => lt_of_cell (h.cell i hi), fun i hi => by obtain ⟨c, t, hc⟩ := h.froz i hi; exact (Array.getElem?_eq_some_iff.1 hc).1⟩
theorem ErrsAt.below {w w' : World} {P : Nat → Addr} {B : Nat} (h : ErrsAt w P B) (hb : Below B w w') : ErrsAt w' P B :=
  ⟨⟨fun i hi => (hb.cell (p := ⟨globs.getD i 0, 0, none⟩) (h.glob i hi)).trans (h.errs.cell i hi), h.errs.inj, fun i hi => by
    obtain ⟨c, t, hc⟩ := h.errs.froz i hi
    exact ⟨c, t, (hb.block _ (h.at_ i hi)).trans hc⟩⟩, h.glob, h.at_⟩
/-- An error, or none. -/
def erV (P : Nat → Addr) : Option Nat → Value
  | none => .nilIface
  | some k => errV (P k)
theorem err_nil_left (a : Addr) (w : World) : (binOp .eql 36 .nilIface (errV a)).run Tryd.prog w = .ok (.bool false) w := by
  obtain ⟨ms, hms⟩ := undErr
  have h : ∀ d : Nat, (Op.equalIn (d + 1) 36 .nilIface (errV a)).run Tryd.prog w = .ok false w := fun d => by simp [Op.equalIn, run_underlying hms, errV]
  simp only [binOp]
  simp [Op.equal, Op.maxDepth, h 9999]
/-- Two errors, or none, held against each other. -/
theorem erV_eql {w : World} {P : Nat → Addr} (h : Errs w P) (a b : Option Nat) (ha : ∀ k, a = some k → k < 19) (hb : ∀ k, b = some k → k < 19) :
    (binOp .eql 36 (erV P a) (erV P b)).run Tryd.prog w = .ok (.bool (decide (a = b))) w := by
  cases a with
  | none =>
    cases b with
    | none => exact nil_nil w
    | some j => rw [decide_eq_false (by simp)]; exact err_nil_left _ w
  | some i =>
    cases b with
    | none => rw [decide_eq_false (by simp)]; exact err_nil_right _ w
    | some j =>
      have := err_eql h i j (ha i rfl) (hb j rfl)
      rw [show decide (some i = some j) = decide (i = j) by simp]
      exact this
end Go.Proofs.YtckcdngnkpfcfaaDoor
/- table: own, Next, Add; the chapter's examples. -/
namespace Go.Proofs.YtckcdngnkpfcfaaDoor
open Go.RowKit Go.Cour
set_option maxHeartbeats 1000000 in
set_option maxRecDepth 100000 in
theorem own_calls (R : List Value) (xs : List Int) (A : Option Addr) (n c : Nat) (w : World) (hl : R.length = 108) (h1 : ∀ v ∈ R, v.oneCell' = true) (h102 : R[102]? = some (.slice A n c)) (hn : n = xs.length) (hA : A = none → c = 0) (hr : Rd w A .u8 xs) (hx : xs.length ≤ 1000000) :
    Calls Tryd.prog 67 #[.agg R.toArray] w fun e w' => ∃ v, e = .returned (.agg (R.set 102 v).toArray) ∧ v.oneCell' = true ∧ HS NoF w w' [.os 5 v (ints .u8 xs)] := by
  have HL := hid hl
  have H1 := hid h1
  have H102 := hid h102
  have HN := hid hn
  have HA := hid hA
  have HR := hid hr
  have HX := hid hx
  have hS := HS.start NoF w
  have HZL : Hd (rowZ.length = 108) := hid rowZ_length
  have HZ := hid zeroRow
  clear hl h1 h102 hn hA hr hx
  have HS1 : Hd (∀ u : Value, u.oneCell' = true → ∀ v ∈ R.set 102 u, v.oneCell' = true) := hid (fun u hu v hv => by
    rcases List.mem_or_eq_of_mem_set hv with h | rfl
    · exact H1.out v h
    · exact hu)
  have HSL : Hd (∀ u : Value, (R.set 102 u).length = 108) := hid (fun u => by rw [List.length_set]; exact HL.out)
  generalize rowZ = RZ at *
  go_enter Tryd.func67, Tryd.ntmps67
  go_wp2_with (first
    | (refine box_blk rfl 70 _ rfl _ rfl R rfl ?_; intro g1 w1 hga hba hBa hsa; replace hS : HS NoF w w1 [.blk g1 70 R] := hS.pushBlk hBa hba hga; clear hga hba hBa hsa)
    | (refine alloc_blk rfl 70 rfl _ rfl RZ HZ.out ?_; intro g2 w2 hga hba hBa hsa; replace hS : HS NoF w w2 [.blk g2 70 RZ, .blk g1 70 R] := hS.pushBlk hBa hba hga; clear hga hba hBa hsa; have c102 : w2.cell? ⟨g1, 102, none⟩ = _ := (hS.cell 1 rfl 102).trans H102.out)
    | (go_at_call 80; refine (clone_calls A n c xs _ HN.out HA.out (hS.oldRd HR.out (fun _ _ _ h => h)) (by have := HX.out; omega)).mono ?_; rintro e w3 ⟨v, rfl, ho, hB3⟩; obtain ⟨Av, cv, rfl, hcv, _, _⟩ := ho.slice; replace hS : HS NoF w w3 [.os 5 (.slice Av xs.length cv) (ints .u8 xs), .blk g2 70 RZ, .blk g1 70 R] := hS.pushOwn hB3 ho; clear ho hB3 hcv c102)
    | (refine hs_store1 hS 2 rfl rfl 24 _ _ rfl 102 rfl (.slice Av xs.length cv) rfl rfl sizeBytesM (by rw [HL.out]; decide) _ rfl ?_; clear hS; intro w4 hS; replace hS : HS NoF w w4 [.os 5 (.slice Av xs.length cv) (ints .u8 xs), .blk g2 70 RZ, .blk g1 70 (R.set 102 (.slice Av xs.length cv))] := hS)
    | (refine hs_loadW hS 2 rfl rfl 70 _ rfl rfl 108 sizeRow (HSL.out _) _ undRow.choose_spec rfl _ rfl ?_)
    | (refine hs_storeW hS 1 rfl rfl 70 _ _ rfl rfl (R.set 102 (.slice Av xs.length cv)) rfl (HS1.out _ rfl) 108 sizeRow (HSL.out _) HZL.out _ rfl ?_; clear hS; intro w9 hS; replace hS : HS NoF w w9 [.os 5 (.slice Av xs.length cv) (ints .u8 xs), .blk g2 70 (R.set 102 (.slice Av xs.length cv)), .blk g1 70 (R.set 102 (.slice Av xs.length cv))] := hS)
    | fail)
  refine bodyPost_ret (results_strR rfl _ _ g2 _ (R.set 102 (.slice Av xs.length cv)) _ rfl (hS.blk 1 rfl) Tryd.underlying70 (by rw [HSL.out]; exact sizeRow)) rfl ⟨.slice Av xs.length cv, rfl, rfl, (hS.erase 2).erase 1⟩
set_option maxRecDepth 100000 in
theorem next_calls (last : Int) (gt : Nat) (w : World) (c1 : w.cell? ⟨gt, 1, none⟩ = some (.int .i64 last)) (hl : 0 ≤ last ∧ last ≤ 2147483647) :
    Calls Tryd.prog 34 #[.pointer (some ⟨gt, 0, none⟩)] w fun e w' => e = .returned (.int .i64 (last + 1)) ∧ w' = w := by
  go_enter Tryd.func34, Tryd.ntmps34
  go_wp2_with fail
  go_ret
  exact ⟨by go_num, rfl⟩
theorem p3 {α : Type} (a b c : α) : [a, b, c].Perm [c, a, b] := List.perm_middle (l₁ := [a, b]) (l₂ := [])
theorem p3b {α : Type} (a b c : α) : [a, b, c].Perm [c, b, a] := (List.reverse_perm [a, b, c]).symm
/-- What Add changes. -/
def TF (gt : Nat) (v : Value) (k : Nat) : Prop := k = gt ∨ v.ownBlock = some k
theorem undRows : Tryd.prog.underlying 77 = some (.slice 70) := by kernel_rfl
theorem infoRow : (Tryd.prog.info? 70).map (fun i => (i.zero.map (·.cells.size), i.size, i.bytes)) = some (some 108, 108, 200) := by kernel_rfl
theorem zeroRowS : ((Tryd.prog.info? 70).bind (·.zero)).isSome = true := by kernel_rfl
theorem sizeRowsM : (Tryd.prog.info? 77).map (·.size) = some 1 := by kernel_rfl
/-- A table's two cells. -/
def tabC (v : Value) (last : Int) : List Value := [v, .int .i64 last]
theorem tab_take {w : World} {gt : Nat} {A : Option Addr} {n c : Nat} {last : Int} {rows : List (List Value)} (hb : Blk w gt 79 (tabC (.slice A n c) last)) (ho : OwnA w 70 108 (.slice A n c) rows) (hsep : (Value.slice A n c).ownBlock ≠ some gt) :
    HS (TF gt (.slice A n c)) w w [.blk gt 79 (tabC (.slice A n c) last), .oa 70 108 (.slice A n c) rows] :=
  ((HS.start (TF gt (.slice A n c)) w).take (.oa 70 108 (.slice A n c) rows) ho (fun k hk => .inl (.inr hk)) (fun f hf => by cases hf)).take (.blk gt 79 (tabC (.slice A n c) last)) hb (fun k hk => .inl (.inl hk)) (fun f hf k hk hfk => by
    obtain rfl := List.mem_singleton.1 hf
    have hk : k = gt := hk
    subst hk
    exact hsep hfk)
set_option maxHeartbeats 2000000 in
set_option maxRecDepth 100000 in
theorem add_calls (R : List Value) (rows : List (List Value)) (xs : List Int) (id last : Int) (gt : Nat) (A B : Option Addr) (n c nb cb : Nat) (w : World) (hb : Blk w gt 79 (tabC (.slice A n c) last)) (ho : OwnA w 70 108 (.slice A n c) rows) (hsep : (Value.slice A n c).ownBlock ≠ some gt)
    (hn : n < 8) (hrn : rows.length = n) (hid1 : 0 ≤ last ∧ last < id ∧ id ≤ 2147483647) (hl : R.length = 108) (h1 : ∀ v ∈ R, v.oneCell' = true) (h0 : R[0]? = some (.int .i64 id)) (h102 : R[102]? = some (.slice B nb cb)) (hnb : nb = xs.length) (hB : B = none → cb = 0) (hr : Rd w B .u8 xs) (hrs : ∀ a, B = some a → xs ≠ [] → ¬ TF gt (.slice A n c) a.block) (hx : xs.length ≤ 1000000) :
    Calls Tryd.prog 33 #[.pointer (some ⟨gt, 0, none⟩), .agg R.toArray] w fun e w' => e = .returned .nilIface ∧ ∃ (A' : Option Addr) (c' : Nat) (v : Value), v.oneCell' = true ∧ HS (TF gt (.slice A n c)) w w' [.blk gt 79 (tabC (.slice A' (n + 1) c') id), .oa 70 108 (.slice A' (n + 1) c') (rows ++ [R.set 102 v]), .os 5 v (ints .u8 xs)] := by
  have HL := Go.Cour.hid hl
  have H1 := Go.Cour.hid h1
  have H0 := Go.Cour.hid h0
  have H102 := Go.Cour.hid h102
  have HNB := Go.Cour.hid hnb
  have HBB := Go.Cour.hid hB
  have HR := Go.Cour.hid hr
  have HRS := Go.Cour.hid hrs
  have HX := Go.Cour.hid hx
  have HRN := Go.Cour.hid hrn
  have hS := tab_take hb ho hsep
  have c0 : w.cell? ⟨gt, 0, none⟩ = some (.slice A n c) := hb.cell 0
  clear hb ho hsep hl h1 h0 h102 hnb hB hr hrs hx hrn
  obtain ⟨F, hF⟩ : ∃ F, Hd (TF gt (.slice A n c) = F) := ⟨_, Go.Cour.hid rfl⟩
  rw [hF.out] at hS HRS ⊢
  have hn8 : ¬ (8 : Int) ≤ n := by omega
  have hlt1 : ¬ id < last + 1 := by omega
  have hlt2 : ¬ (2147483647 : Int) < id := by omega
  go_enter Tryd.func33, Tryd.ntmps33
  go_wp2_with (first
    | (refine box_blk rfl 70 _ rfl _ rfl R rfl ?_; intro g1 w1 hga hba hBa hsa; replace hS : HS F w w1 [.blk g1 70 R, .blk gt 79 (tabC (.slice A n c) last), .oa 70 108 (.slice A n c) rows] := hS.pushBlk hBa hba hga; replace c0 := (hBa.cell (lt_of_cell c0)).trans c0; clear hga hba hBa hsa)
    | fail)
  clear c0
  try go_wp2_with fail
  refine wp_region_S (F := F) (w0 := w) (L0 := [.blk g1 70 R, .blk gt 79 (tabC (.slice A n c) last), .oa 70 108 (.slice A n c) rows]) [3] []
    (fun iK u E => match iK with
      | 3 => u = .int .i64 (last + 1) ∧ E = []
      | _ => False)
    ([]) (by kernel_rfl) (by kernel_rfl) hS ?_
  show wpS _ _ _ _ _ _ _ _ _ _ [0, 1, 2, 3, 4, 5, 6, 7, 8, 9, 10] _
  apply wpS_read (i := 0) rfl rfl ⟨_, hS⟩ rfl -- Op.fieldAddr 70 t3 0
  · intro w' hT'
    simp only [List.getElem_toArray, List.getElem_cons_zero, List.getElem_cons_succ]
    go_wp2_with fail
    first | exact ⟨rfl, rfl, rfl⟩ | rfl
  apply wpS_read (i := 1) rfl rfl ⟨_, hS⟩ rfl -- Op.load 3 t14
  · intro w' hT'
    simp only [List.getElem_toArray, List.getElem_cons_zero, List.getElem_cons_succ]
    have cr := (hT'.cell 0 rfl 0).trans H0.out
    go_wp2_with fail
    first | exact ⟨rfl, rfl, rfl⟩ | rfl
  apply wpS_read (i := 2) rfl rfl ⟨_, hS⟩ rfl -- Op.move t0
  · intro w' hT'
    simp only [List.getElem_toArray, List.getElem_cons_zero, List.getElem_cons_succ]
    go_wp2_with fail
    first | exact ⟨rfl, rfl, rfl⟩ | rfl
  refine wpS_soft (i := 3) rfl rfl rfl (Nat.le_of_ble_eq_true rfl) ?_ ?_ -- Op.call { value (Operand.func 34), args := #[t16], argTypes := #[124
  · intro w' hT
    simp only [List.getElem_toArray, List.getElem_cons_zero, List.getElem_cons_succ]
    go_wp2_with (first
      | (go_at_call 34; refine (next_calls last gt _ (hT.cell 1 rfl 1) (by omega)).mono ?_; rintro e w6 ⟨rfl, rfl⟩)
      | fail)
    exact SoftP.mk' (.int .i64 (last + 1)) ([]) rfl (⟨rfl, rfl⟩) (hT) (Below.refl _ _) (fun _ h => by cases h)
  intro u3 E3 hK3
  obtain ⟨rfl, rfl⟩ := hK3
  simp only [Act.put, List.setIfInBounds_toArray, List.set_cons_zero, List.set_cons_succ]
  apply wpS_read (i := 4) rfl rfl ⟨_, hS⟩ rfl -- Op.binOp BinOp.lss 3 t15 t17 3
  · intro w' hT'
    simp only [List.getElem_toArray, List.getElem_cons_zero, List.getElem_cons_succ]
    go_wp2_with fail
    first | exact ⟨rfl, rfl, rfl⟩ | rfl
  apply wpS_read (i := 5) rfl rfl ⟨_, hS⟩ rfl -- Op.move t18
  · intro w' hT'
    simp only [List.getElem_toArray, List.getElem_cons_zero, List.getElem_cons_succ]
    go_wp2_with fail
    first | exact ⟨rfl, rfl, rfl⟩ | rfl
  apply wpS_read (i := 6) rfl rfl ⟨_, hS⟩ rfl -- Op.fieldAddr 70 t3 0
  · intro w' hT'
    simp only [List.getElem_toArray, List.getElem_cons_zero, List.getElem_cons_succ]
    go_wp2_with fail
    first | exact ⟨rfl, rfl, rfl⟩ | rfl
  apply wpS_read (i := 7) rfl rfl ⟨_, hS⟩ rfl -- Op.load 3 t20
  · intro w' hT'
    simp only [List.getElem_toArray, List.getElem_cons_zero, List.getElem_cons_succ]
    have cr := (hT'.cell 0 rfl 0).trans H0.out
    go_wp2_with fail
    first | exact ⟨rfl, rfl, rfl⟩ | rfl
  apply wpS_read (i := 8) rfl rfl ⟨_, hS⟩ rfl -- Op.binOp BinOp.gtr 3 t21 (const (2147483647:i64)) 3
  · intro w' hT'
    simp only [List.getElem_toArray, List.getElem_cons_zero, List.getElem_cons_succ]
    go_wp2_with fail
    first | exact ⟨rfl, rfl, rfl⟩ | rfl
  apply wpS_read (i := 9) rfl rfl ⟨_, hS⟩ rfl -- Op.pick t19 (const (Value.bool true)) t22
  · intro w' hT'
    simp only [List.getElem_toArray, List.getElem_cons_zero, List.getElem_cons_succ]
    go_wp2_with fail
    first | exact ⟨rfl, rfl, rfl⟩ | rfl
  apply wpS_read (i := 10) rfl rfl ⟨_, hS⟩ rfl -- Op.assign t23
  · intro w' hT'
    simp only [List.getElem_toArray, List.getElem_cons_zero, List.getElem_cons_succ]
    go_wp2_with fail
    first | exact ⟨rfl, rfl, rfl⟩ | rfl
  refine wpS_end ?_
  intro wz hT
  try dsimp only
  clear hS
  have hS : HS F w wz [.oa 70 108 (.slice A n c) rows, .blk g1 70 R, .blk gt 79 (tabC (.slice A n c) last)] := hT.perm (p3 _ _ _)
  clear hT
  try go_wp2_with fail
  refine wp_region_S (F := F) (w0 := w) (L0 := [.blk g1 70 R, .blk gt 79 (tabC (.slice A n c) last)]) [6] [7, 8, 11]
    (fun iK u E => match iK with
      | 6 => ∃ v : Value, u = .agg (R.set 102 v).toArray ∧ v.oneCell' = true ∧ E = [.os 5 v (ints .u8 xs)]
      | _ => False)
    ([.oa 70 108 (.slice A n c) rows]) (by kernel_rfl) (by kernel_rfl) hS ?_
  show wpS _ _ _ _ _ _ _ _ _ _ [0, 1, 2, 3, 4, 5, 6, 7, 8, 9, 10, 11] _
  apply wpS_read (i := 0) rfl rfl ⟨_, (HS.drop2 (E := [.oa 70 108 (.slice A n c) rows]) (L := [.blk g1 70 R, .blk gt 79 (tabC (.slice A n c) last)]) hS)⟩ rfl -- Op.move t0
  · intro w' hT'
    simp only [List.getElem_toArray, List.getElem_cons_zero, List.getElem_cons_succ]
    go_wp2_with fail
    first | exact ⟨rfl, rfl, rfl⟩ | rfl
  apply wpS_read (i := 1) rfl rfl ⟨_, (HS.drop2 (E := [.oa 70 108 (.slice A n c) rows]) (L := [.blk g1 70 R, .blk gt 79 (tabC (.slice A n c) last)]) hS)⟩ rfl -- Op.move t0
  · intro w' hT'
    simp only [List.getElem_toArray, List.getElem_cons_zero, List.getElem_cons_succ]
    go_wp2_with fail
    first | exact ⟨rfl, rfl, rfl⟩ | rfl
  apply wpS_read (i := 2) rfl rfl ⟨_, (HS.drop2 (E := [.oa 70 108 (.slice A n c) rows]) (L := [.blk g1 70 R, .blk gt 79 (tabC (.slice A n c) last)]) hS)⟩ rfl -- Op.nilCheck t26
  · intro w' hT'
    simp only [List.getElem_toArray, List.getElem_cons_zero, List.getElem_cons_succ]
    go_wp2_with fail
    first | exact ⟨rfl, rfl, rfl⟩ | rfl
  apply wpS_read (i := 3) rfl rfl ⟨_, (HS.drop2 (E := [.oa 70 108 (.slice A n c) rows]) (L := [.blk g1 70 R, .blk gt 79 (tabC (.slice A n c) last)]) hS)⟩ rfl -- Op.fieldAddr 79 t27 0
  · intro w' hT'
    simp only [List.getElem_toArray, List.getElem_cons_zero, List.getElem_cons_succ]
    go_wp2_with fail
    first | exact ⟨rfl, rfl, rfl⟩ | rfl
  apply wpS_read (i := 4) rfl rfl ⟨_, (HS.drop2 (E := [.oa 70 108 (.slice A n c) rows]) (L := [.blk g1 70 R, .blk gt 79 (tabC (.slice A n c) last)]) hS)⟩ rfl -- Op.load 77 t28
  · intro w' hT'
    simp only [List.getElem_toArray, List.getElem_cons_zero, List.getElem_cons_succ]
    have ct : w'.cell? ⟨gt, 0, none⟩ = some (.slice A n c) := hT'.cell 1 rfl 0
    go_wp2_with (first
      | (refine hs_loadW hT' 0 rfl rfl 70 _ rfl rfl 108 sizeRow HL.out _ undRow.choose_spec rfl _ rfl ?_)
      | fail)
    first | exact ⟨rfl, rfl, rfl⟩ | rfl
  apply wpS_read (i := 5) rfl rfl ⟨_, (HS.drop2 (E := [.oa 70 108 (.slice A n c) rows]) (L := [.blk g1 70 R, .blk gt 79 (tabC (.slice A n c) last)]) hS)⟩ rfl -- Op.load 70 t3
  · intro w' hT'
    simp only [List.getElem_toArray, List.getElem_cons_zero, List.getElem_cons_succ]
    have ct : w'.cell? ⟨gt, 0, none⟩ = some (.slice A n c) := hT'.cell 1 rfl 0
    go_wp2_with (first
      | (refine hs_loadW hT' 0 rfl rfl 70 _ rfl rfl 108 sizeRow HL.out _ undRow.choose_spec rfl _ rfl ?_)
      | fail)
    first | exact ⟨rfl, rfl, rfl⟩ | rfl
  refine wpS_soft (i := 6) rfl rfl rfl (Nat.le_of_ble_eq_true rfl) ?_ ?_ -- Op.call { value (Operand.func 67), args := #[t30], argTypes := #[70]
  · intro w' hT
    simp only [List.getElem_toArray, List.getElem_cons_zero, List.getElem_cons_succ]
    go_wp2_with (first
      | (go_at_call 67; refine (own_calls R xs B nb cb _ HL.out H1.out H102.out HNB.out HBB.out (hT.oldRd HR.out HRS.out) HX.out).mono ?_; rintro e w6 ⟨v, rfl, hv1, hB6⟩)
      | fail)
    exact SoftP.mk' (.agg (R.set 102 v).toArray) ([.os 5 v (ints .u8 xs)]) rfl (⟨v, rfl, hv1, rfl⟩) (HS.call (A := []) hT hB6 (fun _ h => False.elim h)) (hB6.bel) (fun e he j hj => (hB6.own e he j hj).resolve_left (fun h => h))
  intro u6 E6 hK6
  obtain ⟨v, rfl, hv1, rfl⟩ := hK6
  have HRL : Hd ((R.set 102 v).length = 108) := Go.Cour.hid (by rw [List.length_set]; exact HL.out)
  have HR1 : Hd (∀ x ∈ R.set 102 v, x.oneCell' = true) := Go.Cour.hid (fun x hx => by
    rcases List.mem_or_eq_of_mem_set hx with h | rfl
    · exact H1.out x h
    · exact hv1)
  simp only [Act.put, List.setIfInBounds_toArray, List.set_cons_zero, List.set_cons_succ]
  refine wpS_hard (i := 7) rfl rfl ?_ -- Op.buildSlice 77 1 #[(0, t31)]
  intro w7 hT
  replace hT : HS F w w7 (.os 5 v (ints .u8 xs) :: [.oa 70 108 (.slice A n c) rows, .blk g1 70 R, .blk gt 79 (tabC (.slice A n c) last)]) := hT
  simp only [List.getElem_toArray, List.getElem_cons_zero, List.getElem_cons_succ]
  go_wp2_with (first
    | (refine literal_agg rfl 77 70 _ rfl (R.set 102 v) 108 rfl HRL.out undRows sizeRow zeroRowS (by omega) (by omega) ?_; intro gl w7 hga hba hBa hsa; replace hT := hT.pushBlk hBa hba hga; clear hga hba hBa hsa)
    | fail)
  refine HardP.mk' ([.blk gl 70 (R.set 102 v), .os 5 v (ints .u8 xs), .oa 70 108 (.slice A n c) rows]) rfl ?_ ?_
  · exact hT
  clear hT
  refine wpS_hard (i := 8) rfl rfl ?_ -- Op.call { builtin append, args := #[t29, t32], argTypes := #[77, 77]
  intro w8 hT
  replace hT : HS F w w8 [.blk gl 70 (R.set 102 v), .os 5 v (ints .u8 xs), .oa 70 108 (.slice A n c) rows, .blk g1 70 R, .blk gt 79 (tabC (.slice A n c) last)] := hT
  simp only [List.getElem_toArray, List.getElem_cons_zero, List.getElem_cons_succ]
  go_wp2_with (first
    | (refine hs_appA hT 2 rfl rfl _ _ 77 rfl 200 undRows infoRow (by omega) rfl gl (R.set 102 v) rfl (hT.blk 0 rfl) HRL.out HR1.out (by rw [HRN.out]; omega) (by rw [HRN.out]; omega) _ rfl ?_; clear hT; intro A' n' c' w8 hn' hc' hT)
    | fail)
  refine HardP.mk' ([.blk gl 70 (R.set 102 v), .os 5 v (ints .u8 xs), .oa 70 108 (.slice A' n' c') (rows ++ [(R.set 102 v)])]) rfl ?_ ?_
  · exact hT
  clear hT
  apply wpS_read (i := 9) rfl rfl ⟨_, (HS.drop2 (E := [.oa 70 108 (.slice A n c) rows]) (L := [.blk g1 70 R, .blk gt 79 (tabC (.slice A n c) last)]) hS)⟩ rfl -- Op.nilCheck t25
  · intro w' hT'
    simp only [List.getElem_toArray, List.getElem_cons_zero, List.getElem_cons_succ]
    go_wp2_with fail
    first | exact ⟨rfl, rfl, rfl⟩ | rfl
  apply wpS_read (i := 10) rfl rfl ⟨_, (HS.drop2 (E := [.oa 70 108 (.slice A n c) rows]) (L := [.blk g1 70 R, .blk gt 79 (tabC (.slice A n c) last)]) hS)⟩ rfl -- Op.fieldAddr 79 t34 0
  · intro w' hT'
    simp only [List.getElem_toArray, List.getElem_cons_zero, List.getElem_cons_succ]
    go_wp2_with fail
    first | exact ⟨rfl, rfl, rfl⟩ | rfl
  refine wpS_tot (i := 11) rfl rfl (by kernel_rfl) ?_ -- Op.store 77 t35 t33
  intro w11 hT
  replace hT : HS F w w11 [.blk gl 70 (R.set 102 v), .os 5 v (ints .u8 xs), .oa 70 108 (.slice A' n' c') (rows ++ [(R.set 102 v)]), .blk g1 70 R, .blk gt 79 (tabC (.slice A n c) last)] := hT
  simp only [List.getElem_toArray, List.getElem_cons_zero, List.getElem_cons_succ]
  go_wp2_with (first
    | (refine hs_store1 hT 4 rfl rfl 77 _ _ rfl 0 rfl (.slice A' n' c') rfl rfl sizeRowsM (by simp [tabC]) _ rfl ?_; clear hT; intro w9 hT)
    | fail)
  refine TotP.mk' ([.blk gl 70 (R.set 102 v), .os 5 v (ints .u8 xs), .oa 70 108 (.slice A' n' c') (rows ++ [(R.set 102 v)]), .blk g1 70 R, .blk gt 79 (tabC (.slice A' n' c') last)]) rfl ?_ ?_
  · exact hT
  clear hT
  refine wpS_end ?_
  intro wz hT
  try dsimp only
  clear hS
  have hS : HS F w wz [.blk gl 70 (R.set 102 v), .os 5 v (ints .u8 xs), .oa 70 108 (.slice A' n' c') (rows ++ [(R.set 102 v)]), .blk g1 70 R, .blk gt 79 (tabC (.slice A' n' c') last)] := hT
  clear hT
  obtain rfl : n + 1 = n' := by rw [← hn', HRN.out]
  have ci := (hS.cell 3 rfl 0).trans H0.out
  go_wp2_with (first
      | (refine hs_store1 hS 4 rfl rfl 3 _ _ rfl 1 rfl (.int .i64 id) rfl rfl sizeIntM (by simp [tabC]) _ rfl ?_; clear hS ci; intro w10 hS; replace hS : HS F w w10 [.blk gl 70 (R.set 102 v), .os 5 v (ints .u8 xs), .oa 70 108 (.slice A' (n + 1) c') (rows ++ [(R.set 102 v)]), .blk g1 70 R, .blk gt 79 (tabC (.slice A' (n + 1) c') id)] := hS)
      | fail)
  replace hS : HS F w w10 [.blk gt 79 (tabC (.slice A' (n + 1) c') id), .oa 70 108 (.slice A' (n + 1) c') (rows ++ [(R.set 102 v)]), .os 5 v (ints .u8 xs)] := ((hS.erase 3).erase 0).perm (p3b _ _ _)
  refine bodyPost_ret (results_tmp rfl _ _ _) rfl ?_
  exact ⟨rfl, A', c', v, hv1, hS⟩
end Go.Proofs.YtckcdngnkpfcfaaDoor
/- Descs held against each other. -/
namespace Go.Proofs.YtckcdngnkpfcfaaDoor
open Go.RowKit Go.Cour
theorem undU8D : Tryd.prog.underlying 5 = some (.int .u8) := by kernel_rfl
theorem sizeU8D : (Tryd.prog.info? 5).map (·.size) = some 1 := by kernel_rfl
theorem arrKeyD : Tryd.prog.underlying 27 = some (.array 32 5) := by kernel_rfl
theorem arrHashD : Tryd.prog.underlying 30 = some (.array 32 5) := by kernel_rfl
theorem infoKeyD : (Tryd.prog.info? 27).map (·.size) = some 32 := by kernel_rfl
theorem infoHashD : (Tryd.prog.info? 30).map (·.size) = some 32 := by kernel_rfl
theorem part_arr {P : Program} (w : World) (t e : TypeId) (n : Nat) (ht : P.underlying t = some (.array n e)) (hi : (P.info? t).map (·.size) = some n) (xs : Array Value) (off : Nat) (cs : Array Value) (h : xs.extract off (off + n) = cs) :
    (part t xs off).run P w = .ok (.agg cs) w := by
  obtain ⟨i, hi1, hi2⟩ : ∃ i, P.info? t = some i ∧ i.size = n := by
    cases hie : P.info? t with
    | none => simp [hie] at hi
    | some i => exact ⟨i, rfl, by simpa [hie] using hi⟩
  subst h
  simp [part, isAgg, run_underlying ht, sizeOf, typeInfo, hi1, hi2]
theorem part_int {P : Program} (w : World) (t : TypeId) (k : IntKind) (ht : P.underlying t = some (.int k)) (xs : Array Value) (off : Nat) (v : Value) (h : xs[off]? = some v) :
    (part t xs off).run P w = .ok v w := by
  simp [part, isAgg, run_underlying ht, h]
section
variable {id m q : Int} {k r b : List Int}
theorem descC_ext3 (hk : k.length = 32) : (descC id m q k r b).toArray.extract 3 35 = (ints .u8 k).toArray := by
  unfold descC
  apply Array.ext'
  simp [List.drop_append, hk, List.take_append]
theorem descC_ext35 (hk : k.length = 32) (hr : r.length = 32) : (descC id m q k r b).toArray.extract 35 67 = (ints .u8 r).toArray := by
  unfold descC
  apply Array.ext'
  simp [List.drop_append, hk, hr, List.take_append]
theorem descC_ext67 (hk : k.length = 32) (hr : r.length = 32) (hb : b.length = 32) : (descC id m q k r b).toArray.extract 67 99 = (ints .u8 b).toArray := by
  unfold descC
  apply Array.ext'
  simp [List.drop_append, hk, hr, hb, List.take_append]
  rw [List.drop_eq_nil_of_le (by simp [hk]), List.take_nil, List.nil_append]
  exact List.take_of_length_le (by simp [hb])
end
theorem fieldsDesc : (Tryd.prog.fieldsOf 32).toList.map (fun f => (f.name != "_", f.type, f.offset)) = [(true, 29, 0), (true, 29, 1), (true, 29, 2), (true, 27, 3), (true, 30, 35), (true, 30, 67)] := by kernel_rfl
theorem undU32D : Tryd.prog.underlying 29 = some (.int .u32) := by kernel_rfl
theorem undDescF : Tryd.prog.underlying 32 = some (.struct (Tryd.prog.fieldsOf 32)) := by kernel_rfl
theorem eqF_cons {P : Program} (w : World) (d : Nat) (xs ys : Array Value) (f : Field) (fs : List Field) (b : Bool) (t : TypeId) (o : Nat) (hf : (f.name != "_", f.type, f.offset) = (true, t, o)) (u v : Value) (hu : (part t xs o).run P w = .ok u w) (hv : (part t ys o).run P w = .ok v w) (he : (Op.equalIn d t u v).run P w = .ok b w) :
    (Op.eqFields d xs ys (f :: fs)).run P w = if b then (Op.eqFields d xs ys fs).run P w else .ok false w := by
  injection hf with h1 h2; injection h2 with h2 h3
  subst h2 h3
  have hn : f.name ≠ "_" := by simpa using h1
  cases b <;> simp [Op.eqFields, hn, hu, hv, he]
theorem desc_same (id m q : Int) (k r b : List Int) (hk : k.length = 32) (hr : r.length = 32) (hb : b.length = 32) (w : World) :
    (Op.equalIn 10000 32 (.agg (descC id m q k r b).toArray) (.agg (descC id m q k r b).toArray)).run Tryd.prog w = .ok true w := by
  rw [run_equalIn_agg w 9999 32 _ _ undDescF (by kernel_rfl)]
  have hf := fieldsDesc
  generalize (Tryd.prog.fieldsOf 32).toList = fs at hf
  obtain ⟨f0, fs, rfl, h0, hf⟩ := List.map_eq_cons_iff.1 hf
  obtain ⟨f1, fs, rfl, h1, hf⟩ := List.map_eq_cons_iff.1 hf
  obtain ⟨f2, fs, rfl, h2, hf⟩ := List.map_eq_cons_iff.1 hf
  obtain ⟨f3, fs, rfl, h3, hf⟩ := List.map_eq_cons_iff.1 hf
  obtain ⟨f4, fs, rfl, h4, hf⟩ := List.map_eq_cons_iff.1 hf
  obtain ⟨f5, fs, rfl, h5, hf⟩ := List.map_eq_cons_iff.1 hf
  obtain rfl := List.map_eq_nil_iff.1 hf
  have pi : ∀ (o : Nat) (x : Int), (descC id m q k r b).toArray[o]? = some (.int .u32 x) → (part 29 (descC id m q k r b).toArray o).run Tryd.prog w = .ok (.int .u32 x) w := fun o x h => part_int w 29 .u32 undU32D _ o _ h
  have ei : ∀ x : Int, (Op.equalIn 9999 29 (.int .u32 x) (.int .u32 x)).run Tryd.prog w = .ok true w := fun x => by rw [run_equalIn_int w 9998 29 .u32 .u32 x x undU32D]; simp
  have ek : ∀ xs : List Int, xs.length = 32 → (Op.equalIn 9999 27 (.agg (ints .u8 xs).toArray) (.agg (ints .u8 xs).toArray)).run Tryd.prog w = .ok true w := fun xs h => by rw [run_equalIn_ints w 9997 27 5 32 .u8 arrKeyD undU8D sizeU8D xs xs h h]; simp
  have eh : ∀ xs : List Int, xs.length = 32 → (Op.equalIn 9999 30 (.agg (ints .u8 xs).toArray) (.agg (ints .u8 xs).toArray)).run Tryd.prog w = .ok true w := fun xs h => by rw [run_equalIn_ints w 9997 30 5 32 .u8 arrHashD undU8D sizeU8D xs xs h h]; simp
  have a0 := pi 0 id (by simp [descC])
  have a1 := pi 1 m (by simp [descC])
  have a2 := pi 2 q (by simp [descC])
  have a3 := part_arr (P := Tryd.prog) w 27 5 32 arrKeyD infoKeyD (descC id m q k r b).toArray 3 _ (descC_ext3 hk)
  have a4 := part_arr (P := Tryd.prog) w 30 5 32 arrHashD infoHashD (descC id m q k r b).toArray 35 _ (descC_ext35 hk hr)
  have a5 := part_arr (P := Tryd.prog) w 30 5 32 arrHashD infoHashD (descC id m q k r b).toArray 67 _ (descC_ext67 hk hr hb)
  rw [eqF_cons w _ _ _ _ _ true _ _ h0 _ _ a0 a0 (ei id), if_pos rfl, eqF_cons w _ _ _ _ _ true _ _ h1 _ _ a1 a1 (ei m), if_pos rfl, eqF_cons w _ _ _ _ _ true _ _ h2 _ _ a2 a2 (ei q), if_pos rfl,
    eqF_cons w _ _ _ _ _ true _ _ h3 _ _ a3 a3 (ek k hk), if_pos rfl, eqF_cons w _ _ _ _ _ true _ _ h4 _ _ a4 a4 (eh r hr), if_pos rfl, eqF_cons w _ _ _ _ _ true _ _ h5 _ _ a5 a5 (eh b hb), if_pos rfl]
  simp [Op.eqFields]
theorem desc_neq (id m q : Int) (k r b : List Int) (hk : k.length = 32) (hr : r.length = 32) (hb : b.length = 32) (w : World) :
    (binOp .neq 32 (.agg (descC id m q k r b).toArray) (.agg (descC id m q k r b).toArray)).run Tryd.prog w = .ok (.bool false) w := by
  rw [run_neq_struct, desc_same id m q k r b hk hr hb w]; rfl
theorem desc_eql (id m q : Int) (k r b : List Int) (hk : k.length = 32) (hr : r.length = 32) (hb : b.length = 32) (w : World) :
    (binOp .eql 32 (.agg (descC id m q k r b).toArray) (.agg (descC id m q k r b).toArray)).run Tryd.prog w = .ok (.bool true) w := by
  rw [run_eql_struct, desc_same id m q k r b hk hr hb w]; rfl
end Go.Proofs.YtckcdngnkpfcfaaDoor
/- A word, turned to the right. -/
namespace Go.Proofs.YtckcdngnkpfcfaaDoor
open Go.RowKit Go.Cour
/-- x turned to the right by k. -/
def rotr (k : Nat) (x : Int) : Int := bits .or .u32 (x * 2 ^ (32 - k) % 4294967296) (x / 2 ^ k)
theorem rl2_calls (x : Int) (w : World) (h : 0 ≤ x) (h' : x < 4294967296) :
    Calls Tryd.prog 121 #[.int .u32 x, .int .i64 (-2)] w fun e w' => e = .returned (.int .u32 (rotr 2 x)) ∧ w' = w := by
  have b1 : bits .and .u64 (IntKind.u64.wrap (-2)) 31 = 30 := by decide
  go_enter Tryd.func121, Tryd.ntmps121
  go_wp2
  go_ret
  exact ⟨rfl, rfl⟩
theorem right2_calls (x : Int) (w : World) (h : 0 ≤ x) (h' : x < 4294967296) :
    Calls Tryd.prog 112 #[.int .u32 x, .int .i64 2] w fun e w' => e = .returned (.int .u32 (rotr 2 x)) ∧ w' = w := by
  go_enter Tryd.func112, Tryd.ntmps112
  go_wp2_with (first
    | (go_at_call 121; refine (rl2_calls x _ h h').mono ?_; rintro e w1 ⟨rfl, rfl⟩)
    | fail)
  go_ret
  exact ⟨rfl, rfl⟩
theorem rot2_calls (x : Int) (w : World) (h : 0 ≤ x) (h' : x < 4294967296) :
    Calls Tryd.prog 77 #[.int .u32 x, .int .u64 2] w fun e w' => e = .returned (.int .u32 (bits .or .u32 (x / 2 ^ 2) (x * 2 ^ (32 - 2) % 4294967296))) ∧ w' = w := by
  go_enter Tryd.func77, Tryd.ntmps77
  go_wp2
  go_ret
  exact ⟨rfl, rfl⟩
theorem rl6_calls (x : Int) (w : World) (h : 0 ≤ x) (h' : x < 4294967296) :
    Calls Tryd.prog 121 #[.int .u32 x, .int .i64 (-6)] w fun e w' => e = .returned (.int .u32 (rotr 6 x)) ∧ w' = w := by
  have b1 : bits .and .u64 (IntKind.u64.wrap (-6)) 31 = 26 := by decide
  go_enter Tryd.func121, Tryd.ntmps121
  go_wp2
  go_ret
  exact ⟨rfl, rfl⟩
theorem right6_calls (x : Int) (w : World) (h : 0 ≤ x) (h' : x < 4294967296) :
    Calls Tryd.prog 112 #[.int .u32 x, .int .i64 6] w fun e w' => e = .returned (.int .u32 (rotr 6 x)) ∧ w' = w := by
  go_enter Tryd.func112, Tryd.ntmps112
  go_wp2_with (first
    | (go_at_call 121; refine (rl6_calls x _ h h').mono ?_; rintro e w1 ⟨rfl, rfl⟩)
    | fail)
  go_ret
  exact ⟨rfl, rfl⟩
theorem rot6_calls (x : Int) (w : World) (h : 0 ≤ x) (h' : x < 4294967296) :
    Calls Tryd.prog 77 #[.int .u32 x, .int .u64 6] w fun e w' => e = .returned (.int .u32 (bits .or .u32 (x / 2 ^ 6) (x * 2 ^ (32 - 6) % 4294967296))) ∧ w' = w := by
  go_enter Tryd.func77, Tryd.ntmps77
  go_wp2
  go_ret
  exact ⟨rfl, rfl⟩
theorem rl7_calls (x : Int) (w : World) (h : 0 ≤ x) (h' : x < 4294967296) :
    Calls Tryd.prog 121 #[.int .u32 x, .int .i64 (-7)] w fun e w' => e = .returned (.int .u32 (rotr 7 x)) ∧ w' = w := by
  have b1 : bits .and .u64 (IntKind.u64.wrap (-7)) 31 = 25 := by decide
  go_enter Tryd.func121, Tryd.ntmps121
  go_wp2
  go_ret
  exact ⟨rfl, rfl⟩
theorem right7_calls (x : Int) (w : World) (h : 0 ≤ x) (h' : x < 4294967296) :
    Calls Tryd.prog 112 #[.int .u32 x, .int .i64 7] w fun e w' => e = .returned (.int .u32 (rotr 7 x)) ∧ w' = w := by
  go_enter Tryd.func112, Tryd.ntmps112
  go_wp2_with (first
    | (go_at_call 121; refine (rl7_calls x _ h h').mono ?_; rintro e w1 ⟨rfl, rfl⟩)
    | fail)
  go_ret
  exact ⟨rfl, rfl⟩
theorem rot7_calls (x : Int) (w : World) (h : 0 ≤ x) (h' : x < 4294967296) :
    Calls Tryd.prog 77 #[.int .u32 x, .int .u64 7] w fun e w' => e = .returned (.int .u32 (bits .or .u32 (x / 2 ^ 7) (x * 2 ^ (32 - 7) % 4294967296))) ∧ w' = w := by
  go_enter Tryd.func77, Tryd.ntmps77
  go_wp2
  go_ret
  exact ⟨rfl, rfl⟩
theorem rl11_calls (x : Int) (w : World) (h : 0 ≤ x) (h' : x < 4294967296) :
    Calls Tryd.prog 121 #[.int .u32 x, .int .i64 (-11)] w fun e w' => e = .returned (.int .u32 (rotr 11 x)) ∧ w' = w := by
  have b1 : bits .and .u64 (IntKind.u64.wrap (-11)) 31 = 21 := by decide
  go_enter Tryd.func121, Tryd.ntmps121
  go_wp2
  go_ret
  exact ⟨rfl, rfl⟩
theorem right11_calls (x : Int) (w : World) (h : 0 ≤ x) (h' : x < 4294967296) :
    Calls Tryd.prog 112 #[.int .u32 x, .int .i64 11] w fun e w' => e = .returned (.int .u32 (rotr 11 x)) ∧ w' = w := by
  go_enter Tryd.func112, Tryd.ntmps112
  go_wp2_with (first
    | (go_at_call 121; refine (rl11_calls x _ h h').mono ?_; rintro e w1 ⟨rfl, rfl⟩)
    | fail)
  go_ret
  exact ⟨rfl, rfl⟩
theorem rot11_calls (x : Int) (w : World) (h : 0 ≤ x) (h' : x < 4294967296) :
    Calls Tryd.prog 77 #[.int .u32 x, .int .u64 11] w fun e w' => e = .returned (.int .u32 (bits .or .u32 (x / 2 ^ 11) (x * 2 ^ (32 - 11) % 4294967296))) ∧ w' = w := by
  go_enter Tryd.func77, Tryd.ntmps77
  go_wp2
  go_ret
  exact ⟨rfl, rfl⟩
theorem rl13_calls (x : Int) (w : World) (h : 0 ≤ x) (h' : x < 4294967296) :
    Calls Tryd.prog 121 #[.int .u32 x, .int .i64 (-13)] w fun e w' => e = .returned (.int .u32 (rotr 13 x)) ∧ w' = w := by
  have b1 : bits .and .u64 (IntKind.u64.wrap (-13)) 31 = 19 := by decide
  go_enter Tryd.func121, Tryd.ntmps121
  go_wp2
  go_ret
  exact ⟨rfl, rfl⟩
theorem right13_calls (x : Int) (w : World) (h : 0 ≤ x) (h' : x < 4294967296) :
    Calls Tryd.prog 112 #[.int .u32 x, .int .i64 13] w fun e w' => e = .returned (.int .u32 (rotr 13 x)) ∧ w' = w := by
  go_enter Tryd.func112, Tryd.ntmps112
  go_wp2_with (first
    | (go_at_call 121; refine (rl13_calls x _ h h').mono ?_; rintro e w1 ⟨rfl, rfl⟩)
    | fail)
  go_ret
  exact ⟨rfl, rfl⟩
theorem rot13_calls (x : Int) (w : World) (h : 0 ≤ x) (h' : x < 4294967296) :
    Calls Tryd.prog 77 #[.int .u32 x, .int .u64 13] w fun e w' => e = .returned (.int .u32 (bits .or .u32 (x / 2 ^ 13) (x * 2 ^ (32 - 13) % 4294967296))) ∧ w' = w := by
  go_enter Tryd.func77, Tryd.ntmps77
  go_wp2
  go_ret
  exact ⟨rfl, rfl⟩
theorem rl17_calls (x : Int) (w : World) (h : 0 ≤ x) (h' : x < 4294967296) :
    Calls Tryd.prog 121 #[.int .u32 x, .int .i64 (-17)] w fun e w' => e = .returned (.int .u32 (rotr 17 x)) ∧ w' = w := by
  have b1 : bits .and .u64 (IntKind.u64.wrap (-17)) 31 = 15 := by decide
  go_enter Tryd.func121, Tryd.ntmps121
  go_wp2
  go_ret
  exact ⟨rfl, rfl⟩
theorem right17_calls (x : Int) (w : World) (h : 0 ≤ x) (h' : x < 4294967296) :
    Calls Tryd.prog 112 #[.int .u32 x, .int .i64 17] w fun e w' => e = .returned (.int .u32 (rotr 17 x)) ∧ w' = w := by
  go_enter Tryd.func112, Tryd.ntmps112
  go_wp2_with (first
    | (go_at_call 121; refine (rl17_calls x _ h h').mono ?_; rintro e w1 ⟨rfl, rfl⟩)
    | fail)
  go_ret
  exact ⟨rfl, rfl⟩
theorem rot17_calls (x : Int) (w : World) (h : 0 ≤ x) (h' : x < 4294967296) :
    Calls Tryd.prog 77 #[.int .u32 x, .int .u64 17] w fun e w' => e = .returned (.int .u32 (bits .or .u32 (x / 2 ^ 17) (x * 2 ^ (32 - 17) % 4294967296))) ∧ w' = w := by
  go_enter Tryd.func77, Tryd.ntmps77
  go_wp2
  go_ret
  exact ⟨rfl, rfl⟩
theorem rl18_calls (x : Int) (w : World) (h : 0 ≤ x) (h' : x < 4294967296) :
    Calls Tryd.prog 121 #[.int .u32 x, .int .i64 (-18)] w fun e w' => e = .returned (.int .u32 (rotr 18 x)) ∧ w' = w := by
  have b1 : bits .and .u64 (IntKind.u64.wrap (-18)) 31 = 14 := by decide
  go_enter Tryd.func121, Tryd.ntmps121
  go_wp2
  go_ret
  exact ⟨rfl, rfl⟩
theorem right18_calls (x : Int) (w : World) (h : 0 ≤ x) (h' : x < 4294967296) :
    Calls Tryd.prog 112 #[.int .u32 x, .int .i64 18] w fun e w' => e = .returned (.int .u32 (rotr 18 x)) ∧ w' = w := by
  go_enter Tryd.func112, Tryd.ntmps112
  go_wp2_with (first
    | (go_at_call 121; refine (rl18_calls x _ h h').mono ?_; rintro e w1 ⟨rfl, rfl⟩)
    | fail)
  go_ret
  exact ⟨rfl, rfl⟩
theorem rot18_calls (x : Int) (w : World) (h : 0 ≤ x) (h' : x < 4294967296) :
    Calls Tryd.prog 77 #[.int .u32 x, .int .u64 18] w fun e w' => e = .returned (.int .u32 (bits .or .u32 (x / 2 ^ 18) (x * 2 ^ (32 - 18) % 4294967296))) ∧ w' = w := by
  go_enter Tryd.func77, Tryd.ntmps77
  go_wp2
  go_ret
  exact ⟨rfl, rfl⟩
theorem rl19_calls (x : Int) (w : World) (h : 0 ≤ x) (h' : x < 4294967296) :
    Calls Tryd.prog 121 #[.int .u32 x, .int .i64 (-19)] w fun e w' => e = .returned (.int .u32 (rotr 19 x)) ∧ w' = w := by
  have b1 : bits .and .u64 (IntKind.u64.wrap (-19)) 31 = 13 := by decide
  go_enter Tryd.func121, Tryd.ntmps121
  go_wp2
  go_ret
  exact ⟨rfl, rfl⟩
theorem right19_calls (x : Int) (w : World) (h : 0 ≤ x) (h' : x < 4294967296) :
    Calls Tryd.prog 112 #[.int .u32 x, .int .i64 19] w fun e w' => e = .returned (.int .u32 (rotr 19 x)) ∧ w' = w := by
  go_enter Tryd.func112, Tryd.ntmps112
  go_wp2_with (first
    | (go_at_call 121; refine (rl19_calls x _ h h').mono ?_; rintro e w1 ⟨rfl, rfl⟩)
    | fail)
  go_ret
  exact ⟨rfl, rfl⟩
theorem rot19_calls (x : Int) (w : World) (h : 0 ≤ x) (h' : x < 4294967296) :
    Calls Tryd.prog 77 #[.int .u32 x, .int .u64 19] w fun e w' => e = .returned (.int .u32 (bits .or .u32 (x / 2 ^ 19) (x * 2 ^ (32 - 19) % 4294967296))) ∧ w' = w := by
  go_enter Tryd.func77, Tryd.ntmps77
  go_wp2
  go_ret
  exact ⟨rfl, rfl⟩
theorem rl22_calls (x : Int) (w : World) (h : 0 ≤ x) (h' : x < 4294967296) :
    Calls Tryd.prog 121 #[.int .u32 x, .int .i64 (-22)] w fun e w' => e = .returned (.int .u32 (rotr 22 x)) ∧ w' = w := by
  have b1 : bits .and .u64 (IntKind.u64.wrap (-22)) 31 = 10 := by decide
  go_enter Tryd.func121, Tryd.ntmps121
  go_wp2
  go_ret
  exact ⟨rfl, rfl⟩
theorem right22_calls (x : Int) (w : World) (h : 0 ≤ x) (h' : x < 4294967296) :
    Calls Tryd.prog 112 #[.int .u32 x, .int .i64 22] w fun e w' => e = .returned (.int .u32 (rotr 22 x)) ∧ w' = w := by
  go_enter Tryd.func112, Tryd.ntmps112
  go_wp2_with (first
    | (go_at_call 121; refine (rl22_calls x _ h h').mono ?_; rintro e w1 ⟨rfl, rfl⟩)
    | fail)
  go_ret
  exact ⟨rfl, rfl⟩
theorem rot22_calls (x : Int) (w : World) (h : 0 ≤ x) (h' : x < 4294967296) :
    Calls Tryd.prog 77 #[.int .u32 x, .int .u64 22] w fun e w' => e = .returned (.int .u32 (bits .or .u32 (x / 2 ^ 22) (x * 2 ^ (32 - 22) % 4294967296))) ∧ w' = w := by
  go_enter Tryd.func77, Tryd.ntmps77
  go_wp2
  go_ret
  exact ⟨rfl, rfl⟩
theorem rl25_calls (x : Int) (w : World) (h : 0 ≤ x) (h' : x < 4294967296) :
    Calls Tryd.prog 121 #[.int .u32 x, .int .i64 (-25)] w fun e w' => e = .returned (.int .u32 (rotr 25 x)) ∧ w' = w := by
  have b1 : bits .and .u64 (IntKind.u64.wrap (-25)) 31 = 7 := by decide
  go_enter Tryd.func121, Tryd.ntmps121
  go_wp2
  go_ret
  exact ⟨rfl, rfl⟩
theorem right25_calls (x : Int) (w : World) (h : 0 ≤ x) (h' : x < 4294967296) :
    Calls Tryd.prog 112 #[.int .u32 x, .int .i64 25] w fun e w' => e = .returned (.int .u32 (rotr 25 x)) ∧ w' = w := by
  go_enter Tryd.func112, Tryd.ntmps112
  go_wp2_with (first
    | (go_at_call 121; refine (rl25_calls x _ h h').mono ?_; rintro e w1 ⟨rfl, rfl⟩)
    | fail)
  go_ret
  exact ⟨rfl, rfl⟩
theorem rot25_calls (x : Int) (w : World) (h : 0 ≤ x) (h' : x < 4294967296) :
    Calls Tryd.prog 77 #[.int .u32 x, .int .u64 25] w fun e w' => e = .returned (.int .u32 (bits .or .u32 (x / 2 ^ 25) (x * 2 ^ (32 - 25) % 4294967296))) ∧ w' = w := by
  go_enter Tryd.func77, Tryd.ntmps77
  go_wp2
  go_ret
  exact ⟨rfl, rfl⟩
end Go.Proofs.YtckcdngnkpfcfaaDoor
/- A block's words; a round; a block taken in: as functions of lists. -/
namespace Go.Proofs.YtckcdngnkpfcfaaDoor
open Go.RowKit Go.Cour
/-- The numbers of the rounds. -/
def shaK : List Int := [1116352408, 1899447441, 3049323471, 3921009573, 961987163, 1508970993, 2453635748, 2870763221, 3624381080, 310598401, 607225278, 1426881987, 1925078388, 2162078206, 2614888103, 3248222580, 3835390401, 4022224774, 264347078, 604807628, 770255983, 1249150122, 1555081692, 1996064986, 2554220882, 2821834349, 2952996808, 3210313671, 3336571891, 3584528711, 113926993, 338241895, 666307205, 773529912, 1294757372, 1396182291, 1695183700, 1986661051, 2177026350, 2456956037, 2730485921, 2820302411, 3259730800, 3345764771, 3516065817, 3600352804, 4094571909, 275423344, 430227734, 506948616, 659060556, 883997877, 958139571, 1322822218, 1537002063, 1747873779, 1955562222, 2024104815, 2227730452, 2361852424, 2428436474, 2756734187, 3204031479, 3329325298]
/-- A block's word. -/
def word32 (b : List Int) (i : Nat) : Int := bits .or .u32 (bits .or .u32 (bits .or .u32 (rd b (4 * i) * 16777216) (rd b (4 * i + 1) * 65536)) (rd b (4 * i + 2) * 256)) (rd b (4 * i + 3))
def sig (a b : Nat) (d x : Int) : Int := bits .xor .u32 (bits .xor .u32 (rotr a x) (rotr b x)) (x / d)
def Sig (a b c : Nat) (x : Int) : Int := bits .xor .u32 (bits .xor .u32 (rotr a x) (rotr b x)) (rotr c x)
def schedW (w : List Int) (i : Nat) : Int := (rd w (i - 16) + sig 7 18 8 (rd w (i - 15)) + rd w (i - 7) + sig 17 19 1024 (rd w (i - 2))) % 4294967296
/-- The words so far: of the block. -/
def schedA (b : List Int) (n : Nat) : List Int := (List.range n).foldl (fun w i => w.set i (word32 b i)) (List.replicate 64 0)
/-- And those that come of them. -/
def schedB (b : List Int) (n : Nat) : List Int := (List.range n).foldl (fun w i => w.set (16 + i) (schedW w (16 + i))) (schedA b 16)
def sched (b : List Int) : List Int := schedB b 48
theorem schedA_succ (b : List Int) (n : Nat) : schedA b (n + 1) = (schedA b n).set n (word32 b n) := by simp [schedA, List.range_succ]
theorem schedB_succ (b : List Int) (n : Nat) : schedB b (n + 1) = (schedB b n).set (16 + n) (schedW (schedB b n) (16 + n)) := by simp [schedB, List.range_succ]
@[simp] theorem schedA_length (b : List Int) (n : Nat) : (schedA b n).length = 64 := by
  induction n with
  | zero => simp [schedA]
  | succ n ih => rw [schedA_succ]; simpa using ih
@[simp] theorem schedB_length (b : List Int) (n : Nat) : (schedB b n).length = 64 := by
  induction n with
  | zero => simp [schedB]
  | succ n ih => rw [schedB_succ]; simpa using ih
def W32 (x : Int) : Prop := 0 ≤ x ∧ x < 4294967296
theorem bits_W32 (op : BinOp) (x y : Int) : W32 (bits op .u32 x y) := ⟨bits_lo_u32 _ _ _, by have := bits_hi_u32 op x y; omega⟩
theorem mod_W32 (x : Int) : W32 (x % 4294967296) := ⟨Int.emod_nonneg _ (by decide), Int.emod_lt_of_pos _ (by decide)⟩
theorem rd_all {P : Int → Prop} {xs : List Int} (h : ∀ x ∈ xs, P x) (h0 : P 0) (i : Nat) : P (rd xs i) := by
  unfold rd
  rw [List.getD_eq_getElem?_getD]
  cases hi : xs[i]? with
  | none => exact h0
  | some x => exact h x (List.mem_of_getElem? hi)
theorem zero_W32 : W32 0 := ⟨by decide, by decide⟩
theorem word32_W32 (b : List Int) (i : Nat) : W32 (word32 b i) := bits_W32 _ _ _
theorem schedW_W32 (b : List Int) (i : Nat) : W32 (schedW b i) := mod_W32 _
theorem set_all {P : Int → Prop} {xs : List Int} {i : Nat} {y : Int} (h : ∀ x ∈ xs, P x) (hy : P y) : ∀ x ∈ xs.set i y, P x := fun x hx => by
  rcases List.mem_or_eq_of_mem_set hx with h1 | h1
  · exact h x h1
  · exact h1 ▸ hy
theorem schedA_W32 (b : List Int) (n : Nat) : ∀ x ∈ schedA b n, W32 x := by
  induction n with
  | zero => intro x hx; simp [schedA] at hx; rw [hx]; exact zero_W32
  | succ n ih => rw [schedA_succ]; exact set_all ih (word32_W32 _ _)
theorem schedB_W32 (b : List Int) (n : Nat) : ∀ x ∈ schedB b n, W32 x := by
  induction n with
  | zero => simpa [schedB] using schedA_W32 b 16
  | succ n ih => rw [schedB_succ]; exact set_all ih (schedW_W32 _ _)
theorem shaK_all : ∀ x ∈ shaK, W32 x := by unfold W32; decide
theorem shaK_W32 (i : Nat) : W32 (rd shaK i) := rd_all shaK_all zero_W32 i
/-- A round. -/
def oneS (s : List Int) (k w : Int) : Int := (rd s 7 + Sig 6 11 25 (rd s 4) + bits .xor .u32 (bits .and .u32 (rd s 4) (rd s 5)) (bits .and .u32 (bits .xor .u32 IntKind.u32.max (rd s 4)) (rd s 6)) + k + w)
def twoS (s : List Int) : Int := (Sig 2 13 22 (rd s 0) + bits .xor .u32 (bits .xor .u32 (bits .and .u32 (rd s 0) (rd s 1)) (bits .and .u32 (rd s 0) (rd s 2))) (bits .and .u32 (rd s 1) (rd s 2)))
def stepS (ws : List Int) (s : List Int) (i : Nat) : List Int :=
  [(oneS s (rd shaK i) (rd ws i) + twoS s) % 4294967296, rd s 0, rd s 1, rd s 2, (rd s 3 + oneS s (rd shaK i) (rd ws i)) % 4294967296, rd s 4, rd s 5, rd s 6]
def roundsS (b h : List Int) (n : Nat) : List Int := (List.range n).foldl (stepS (sched b)) h
theorem roundsS_succ (b h : List Int) (n : Nat) : roundsS b h (n + 1) = stepS (sched b) (roundsS b h n) n := by simp [roundsS, List.range_succ]
theorem roundsS_length (b h : List Int) (hl : h.length = 8) (n : Nat) : (roundsS b h n).length = 8 := by
  cases n with
  | zero => simpa [roundsS] using hl
  | succ n => rw [roundsS_succ]; rfl
theorem stepS_W32 {ws s : List Int} {i : Nat} (h : ∀ x ∈ s, W32 x) : ∀ x ∈ stepS ws s i, W32 x := fun x hx => by
  have r := fun j => rd_all h zero_W32 j
  simp only [stepS, List.mem_cons, List.not_mem_nil, or_false] at hx
  rcases hx with rfl | rfl | rfl | rfl | rfl | rfl | rfl | rfl <;> first | exact r _ | exact mod_W32 _
theorem roundsS_W32 (b h : List Int) (hh : ∀ x ∈ h, W32 x) (n : Nat) : ∀ x ∈ roundsS b h n, W32 x := by
  induction n with
  | zero => simpa [roundsS] using hh
  | succ n ih => rw [roundsS_succ]; exact stepS_W32 ih
/-- Some of the words laid on top of the others. -/
def topS (h s : List Int) (n : Nat) : List Int := (List.range n).foldl (fun x i => x.set i ((rd h i + rd s i) % 4294967296)) h
theorem topS_succ (h s : List Int) (n : Nat) : topS h s (n + 1) = (topS h s n).set n ((rd h n + rd s n) % 4294967296) := by simp [topS, List.range_succ]
@[simp] theorem topS_length (h s : List Int) (n : Nat) : (topS h s n).length = h.length := by
  induction n with
  | zero => rfl
  | succ n ih => rw [topS_succ]; simpa using ih
theorem topS_rd (h s : List Int) (n j : Nat) (hj : n ≤ j) : rd (topS h s n) j = rd h j := by
  induction n with
  | zero => rfl
  | succ n ih =>
    rw [topS_succ, rd_set', if_neg (by omega)]
    exact ih (by omega)
theorem topS_W32 (h s : List Int) (hh : ∀ x ∈ h, W32 x) (n : Nat) : ∀ x ∈ topS h s n, W32 x := by
  induction n with
  | zero => exact hh
  | succ n ih => rw [topS_succ]; exact set_all ih (mod_W32 _)
/-- A block taken in. -/
def shaBlock (h b : List Int) : List Int := topS h (roundsS b h 64) 8
theorem shaBlock_length (h b : List Int) : (shaBlock h b).length = h.length := topS_length _ _ _
theorem shaBlock_W32 (h b : List Int) (hh : ∀ x ∈ h, W32 x) : ∀ x ∈ shaBlock h b, W32 x := topS_W32 _ _ hh _
end Go.Proofs.YtckcdngnkpfcfaaDoor
/- The program's words of a block. -/
namespace Go.Proofs.YtckcdngnkpfcfaaDoor
open Go.RowKit Go.Cour
theorem infoW64 : (Tryd.prog.info? 134).map (·.size) = some 64 := by kernel_rfl
theorem arrW64 : Tryd.prog.underlying 134 = some (.array 64 29) := by kernel_rfl
theorem zeroW64 : ((Tryd.prog.info? 134).bind (·.zero)).map (·.cells) = some (ints .u32 (List.replicate 64 0)).toArray := by kernel_rfl
/-- Bytes that stand in memory. -/
def At (w : World) (g o : Nat) (b : List Int) (n : Nat) : Prop := ∀ i, i < n → w.cell? ⟨g, o + i, none⟩ = some (.int .u8 (rd b i))
theorem At.below {w w' : World} {g o n : Nat} {b : List Int} (h : At w g o b n) (hb : Below w.heap.size w w') : At w' g o b n := fun i hi => (hb.cell (lt_of_cell (h i hi))).trans (h i hi)
/-- What the blocks of a call of words hold. -/
abbrev WS (w wr : World) (g2 g3 : Nat) (xs : List Int) : Prop := HS NoF w wr [.blk g3 134 (ints .u32 xs), .blk g2 134 (ints .u32 (List.replicate 64 0))]
set_option maxHeartbeats 1000000 in
set_option maxRecDepth 100000 in
theorem words_calls (b : List Int) (g o n c : Nat) (w : World) (hb : At w g o b 64) (hr : ∀ i, 0 ≤ rd b i ∧ rd b i < 256) (hn : 64 ≤ n) :
    Calls Tryd.prog 110 #[.slice (some ⟨g, o, none⟩) n c] w fun e w' => e = .returned (.agg (ints .u32 (sched b)).toArray) ∧ Below w.heap.size w w' := by
  have HB := hid hb
  have HR := hid hr
  clear hb hr
  have hS := HS.start NoF w
  go_enter Tryd.func110, Tryd.ntmps110
  go_wp2_with (first
    | (have _ := mk0; refine alloc_blk rfl 134 rfl _ rfl (ints .u32 (List.replicate 64 0)) zeroW64 ?_; intro g2 w3 hga hba hBa hsa; replace hS := hS.pushBlk hBa hba hga; clear hga hba hBa hsa; have mk1 : True := trivial)
    | (refine alloc_blk rfl 134 rfl _ rfl (ints .u32 (List.replicate 64 0)) zeroW64 ?_; intro gr w2 hga hba hBa hsa; replace hS := hS.pushBlk hBa hba hga; clear hga hba hBa hsa; have mk0 : True := trivial)
    | fail)
  replace hS : WS w w3 gr g2 (schedA b 0) := hS
  go_loopg [4, 8] 17 (fun kq v4 v8 wr => ∃ i : Nat, i ≤ 16 ∧ v8 = .int .i64 i ∧ Hd (kq + i = 17) ∧ WS w wr gr g2 (schedA b i))
  case atStart => exact ⟨0, by omega, rfl, hid (by omega), hS⟩
  case round =>
    clear hS
    obtain ⟨i, hi, rfl, hq, hS⟩ := hrel
    by_cases hlt : i < 16
    · have hlt2 : (i : Int) < 16 := by omega
      obtain ⟨p, hp⟩ : ∃ p : Nat, 4 * i = p := ⟨_, rfl⟩
      have hp2 : 4 * (i : Int) = (p : Int) := by omega
      have hpn : p + 3 < n := by omega
      have HW : Hd (word32 b i = bits .or .u32 (bits .or .u32 (bits .or .u32 (rd b p * 16777216) (rd b (p + 1) * 65536)) (rd b (p + 2) * 256)) (rd b (p + 3))) := hid (by rw [← hp]; rfl)
      have r0 := HR.out p
      have r1 := HR.out (p + 1)
      have r2 := HR.out (p + 2)
      have r3 := HR.out (p + 3)
      have c0 := hid (HB.out p (by omega))
      have c1 := hid (HB.out (p + 1) (by omega))
      have c2 := hid (HB.out (p + 2) (by omega))
      have c3 := hid (HB.out (p + 3) (by omega))
      have HL : Hd (i < (schedA b i).length) := hid (by simp; omega)
      have HX := hid (schedA_succ b i)
      generalize rd b p = b0 at *
      generalize rd b (p + 1) = b1 at *
      generalize rd b (p + 2) = b2 at *
      generalize rd b (p + 3) = b3 at *
      clear hp
      go_wp2_with fail
      try go_wp2_with fail
      refine wp_region_L (T := fun w' => WS w w' gr g2 (schedA b i)) (by kernel_rfl) (by kernel_rfl) hS.drew ?_
      intro wa hT
      show wpT _ _ _ _ [0, 1, 2, 3, 4, 5, 6, 7, 8, 9, 10, 11, 12, 13, 14, 15, 16, 17, 18, 19, 20, 21, 22, 23, 24, 25, 26, 27, 28, 29, 30, 31, 32, 33, 34, 35] _ _
      apply wpT_read (i := 0) rfl hT rfl -- Op.move t4
      · intro w' hT'
        simp only [List.getElem_toArray, List.getElem_cons_zero, List.getElem_cons_succ]
        go_wp2_with fail
        first | exact ⟨rfl, rfl, rfl⟩ | rfl
      apply wpT_read (i := 1) rfl hT rfl -- Op.move t0
      · intro w' hT'
        simp only [List.getElem_toArray, List.getElem_cons_zero, List.getElem_cons_succ]
        go_wp2_with fail
        first | exact ⟨rfl, rfl, rfl⟩ | rfl
      apply wpT_read (i := 2) rfl hT rfl -- Op.move t4
      · intro w' hT'
        simp only [List.getElem_toArray, List.getElem_cons_zero, List.getElem_cons_succ]
        go_wp2_with fail
        first | exact ⟨rfl, rfl, rfl⟩ | rfl
      apply wpT_read (i := 3) rfl hT rfl -- Op.binOp BinOp.mul 3 (const (4:i64)) t13 3
      · intro w' hT'
        simp only [List.getElem_toArray, List.getElem_cons_zero, List.getElem_cons_succ]
        go_wp2_with fail
        first | exact ⟨rfl, rfl, rfl⟩ | rfl
      apply wpT_read (i := 4) rfl hT rfl -- Op.indexAddr 41 t12 t14
      · intro w' hT'
        simp only [List.getElem_toArray, List.getElem_cons_zero, List.getElem_cons_succ]
        go_wp2_with fail
        first | exact ⟨rfl, rfl, rfl⟩ | rfl
      apply wpT_read (i := 5) rfl hT rfl -- Op.load 5 t15
      · intro w' hT'
        simp only [List.getElem_toArray, List.getElem_cons_zero, List.getElem_cons_succ]
        have k0 := hT'.oldCell c0.out id
        have k1 := hT'.oldCell c1.out id
        have k2 := hT'.oldCell c2.out id
        have k3 := hT'.oldCell c3.out id
        go_wp2_with fail
        first | exact ⟨rfl, rfl, rfl⟩ | rfl
      apply wpT_read (i := 6) rfl hT rfl -- Op.convert 5 73 t16
      · intro w' hT'
        simp only [List.getElem_toArray, List.getElem_cons_zero, List.getElem_cons_succ]
        go_wp2_with fail
        first | exact ⟨rfl, rfl, rfl⟩ | rfl
      apply wpT_read (i := 7) rfl hT rfl -- Op.binOp BinOp.shl 73 t17 (const (24:u64)) 63
      · intro w' hT'
        simp only [List.getElem_toArray, List.getElem_cons_zero, List.getElem_cons_succ]
        go_wp2_with fail
        first | exact ⟨rfl, rfl, rfl⟩ | rfl
      apply wpT_read (i := 8) rfl hT rfl -- Op.move t0
      · intro w' hT'
        simp only [List.getElem_toArray, List.getElem_cons_zero, List.getElem_cons_succ]
        go_wp2_with fail
        first | exact ⟨rfl, rfl, rfl⟩ | rfl
      apply wpT_read (i := 9) rfl hT rfl -- Op.move t4
      · intro w' hT'
        simp only [List.getElem_toArray, List.getElem_cons_zero, List.getElem_cons_succ]
        go_wp2_with fail
        first | exact ⟨rfl, rfl, rfl⟩ | rfl
      apply wpT_read (i := 10) rfl hT rfl -- Op.binOp BinOp.mul 3 (const (4:i64)) t20 3
      · intro w' hT'
        simp only [List.getElem_toArray, List.getElem_cons_zero, List.getElem_cons_succ]
        go_wp2_with fail
        first | exact ⟨rfl, rfl, rfl⟩ | rfl
      apply wpT_read (i := 11) rfl hT rfl -- Op.binOp BinOp.add 3 t21 (const (1:i64)) 3
      · intro w' hT'
        simp only [List.getElem_toArray, List.getElem_cons_zero, List.getElem_cons_succ]
        go_wp2_with fail
        first | exact ⟨rfl, rfl, rfl⟩ | rfl
      apply wpT_read (i := 12) rfl hT rfl -- Op.indexAddr 41 t19 t22
      · intro w' hT'
        simp only [List.getElem_toArray, List.getElem_cons_zero, List.getElem_cons_succ]
        go_wp2_with fail
        first | exact ⟨rfl, rfl, rfl⟩ | rfl
      apply wpT_read (i := 13) rfl hT rfl -- Op.load 5 t23
      · intro w' hT'
        simp only [List.getElem_toArray, List.getElem_cons_zero, List.getElem_cons_succ]
        have k0 := hT'.oldCell c0.out id
        have k1 := hT'.oldCell c1.out id
        have k2 := hT'.oldCell c2.out id
        have k3 := hT'.oldCell c3.out id
        go_wp2_with fail
        first | exact ⟨rfl, rfl, rfl⟩ | rfl
      apply wpT_read (i := 14) rfl hT rfl -- Op.convert 5 73 t24
      · intro w' hT'
        simp only [List.getElem_toArray, List.getElem_cons_zero, List.getElem_cons_succ]
        go_wp2_with fail
        first | exact ⟨rfl, rfl, rfl⟩ | rfl
      apply wpT_read (i := 15) rfl hT rfl -- Op.binOp BinOp.shl 73 t25 (const (16:u64)) 63
      · intro w' hT'
        simp only [List.getElem_toArray, List.getElem_cons_zero, List.getElem_cons_succ]
        go_wp2_with fail
        first | exact ⟨rfl, rfl, rfl⟩ | rfl
      apply wpT_read (i := 16) rfl hT rfl -- Op.binOp BinOp.or 73 t18 t26 73
      · intro w' hT'
        simp only [List.getElem_toArray, List.getElem_cons_zero, List.getElem_cons_succ]
        go_wp2_with fail
        first | exact ⟨rfl, rfl, rfl⟩ | rfl
      apply wpT_read (i := 17) rfl hT rfl -- Op.move t0
      · intro w' hT'
        simp only [List.getElem_toArray, List.getElem_cons_zero, List.getElem_cons_succ]
        go_wp2_with fail
        first | exact ⟨rfl, rfl, rfl⟩ | rfl
      apply wpT_read (i := 18) rfl hT rfl -- Op.move t4
      · intro w' hT'
        simp only [List.getElem_toArray, List.getElem_cons_zero, List.getElem_cons_succ]
        go_wp2_with fail
        first | exact ⟨rfl, rfl, rfl⟩ | rfl
      apply wpT_read (i := 19) rfl hT rfl -- Op.binOp BinOp.mul 3 (const (4:i64)) t29 3
      · intro w' hT'
        simp only [List.getElem_toArray, List.getElem_cons_zero, List.getElem_cons_succ]
        go_wp2_with fail
        first | exact ⟨rfl, rfl, rfl⟩ | rfl
      apply wpT_read (i := 20) rfl hT rfl -- Op.binOp BinOp.add 3 t30 (const (2:i64)) 3
      · intro w' hT'
        simp only [List.getElem_toArray, List.getElem_cons_zero, List.getElem_cons_succ]
        go_wp2_with fail
        first | exact ⟨rfl, rfl, rfl⟩ | rfl
      apply wpT_read (i := 21) rfl hT rfl -- Op.indexAddr 41 t28 t31
      · intro w' hT'
        simp only [List.getElem_toArray, List.getElem_cons_zero, List.getElem_cons_succ]
        go_wp2_with fail
        first | exact ⟨rfl, rfl, rfl⟩ | rfl
      apply wpT_read (i := 22) rfl hT rfl -- Op.load 5 t32
      · intro w' hT'
        simp only [List.getElem_toArray, List.getElem_cons_zero, List.getElem_cons_succ]
        have k0 := hT'.oldCell c0.out id
        have k1 := hT'.oldCell c1.out id
        have k2 := hT'.oldCell c2.out id
        have k3 := hT'.oldCell c3.out id
        go_wp2_with fail
        first | exact ⟨rfl, rfl, rfl⟩ | rfl
      apply wpT_read (i := 23) rfl hT rfl -- Op.convert 5 73 t33
      · intro w' hT'
        simp only [List.getElem_toArray, List.getElem_cons_zero, List.getElem_cons_succ]
        go_wp2_with fail
        first | exact ⟨rfl, rfl, rfl⟩ | rfl
      apply wpT_read (i := 24) rfl hT rfl -- Op.binOp BinOp.shl 73 t34 (const (8:u64)) 63
      · intro w' hT'
        simp only [List.getElem_toArray, List.getElem_cons_zero, List.getElem_cons_succ]
        go_wp2_with fail
        first | exact ⟨rfl, rfl, rfl⟩ | rfl
      apply wpT_read (i := 25) rfl hT rfl -- Op.binOp BinOp.or 73 t27 t35 73
      · intro w' hT'
        simp only [List.getElem_toArray, List.getElem_cons_zero, List.getElem_cons_succ]
        go_wp2_with fail
        first | exact ⟨rfl, rfl, rfl⟩ | rfl
      apply wpT_read (i := 26) rfl hT rfl -- Op.move t0
      · intro w' hT'
        simp only [List.getElem_toArray, List.getElem_cons_zero, List.getElem_cons_succ]
        go_wp2_with fail
        first | exact ⟨rfl, rfl, rfl⟩ | rfl
      apply wpT_read (i := 27) rfl hT rfl -- Op.move t4
      · intro w' hT'
        simp only [List.getElem_toArray, List.getElem_cons_zero, List.getElem_cons_succ]
        go_wp2_with fail
        first | exact ⟨rfl, rfl, rfl⟩ | rfl
      apply wpT_read (i := 28) rfl hT rfl -- Op.binOp BinOp.mul 3 (const (4:i64)) t38 3
      · intro w' hT'
        simp only [List.getElem_toArray, List.getElem_cons_zero, List.getElem_cons_succ]
        go_wp2_with fail
        first | exact ⟨rfl, rfl, rfl⟩ | rfl
      apply wpT_read (i := 29) rfl hT rfl -- Op.binOp BinOp.add 3 t39 (const (3:i64)) 3
      · intro w' hT'
        simp only [List.getElem_toArray, List.getElem_cons_zero, List.getElem_cons_succ]
        go_wp2_with fail
        first | exact ⟨rfl, rfl, rfl⟩ | rfl
      apply wpT_read (i := 30) rfl hT rfl -- Op.indexAddr 41 t37 t40
      · intro w' hT'
        simp only [List.getElem_toArray, List.getElem_cons_zero, List.getElem_cons_succ]
        go_wp2_with fail
        first | exact ⟨rfl, rfl, rfl⟩ | rfl
      apply wpT_read (i := 31) rfl hT rfl -- Op.load 5 t41
      · intro w' hT'
        simp only [List.getElem_toArray, List.getElem_cons_zero, List.getElem_cons_succ]
        have k0 := hT'.oldCell c0.out id
        have k1 := hT'.oldCell c1.out id
        have k2 := hT'.oldCell c2.out id
        have k3 := hT'.oldCell c3.out id
        go_wp2_with fail
        first | exact ⟨rfl, rfl, rfl⟩ | rfl
      apply wpT_read (i := 32) rfl hT rfl -- Op.convert 5 73 t42
      · intro w' hT'
        simp only [List.getElem_toArray, List.getElem_cons_zero, List.getElem_cons_succ]
        go_wp2_with fail
        first | exact ⟨rfl, rfl, rfl⟩ | rfl
      apply wpT_read (i := 33) rfl hT rfl -- Op.binOp BinOp.or 73 t36 t43 73
      · intro w' hT'
        simp only [List.getElem_toArray, List.getElem_cons_zero, List.getElem_cons_succ]
        go_wp2_with fail
        first | exact ⟨rfl, rfl, rfl⟩ | rfl
      apply wpT_read (i := 34) rfl hT rfl -- Op.indexAddr 84 t3 t11
      · intro w' hT'
        simp only [List.getElem_toArray, List.getElem_cons_zero, List.getElem_cons_succ]
        go_wp2_with fail
        first | exact ⟨rfl, rfl, rfl⟩ | rfl
      refine wpT_totL (i := 35) rfl rfl (by kernel_rfl) ?_ -- Op.store 73 t45 t44
      simp only [List.getElem_toArray, List.getElem_cons_zero, List.getElem_cons_succ]
      have fz := hT.frozen 0 rfl i
      have cc := hT.cellI 0 rfl i HL.out
      go_wp2_with fail
      refine OnX.mk (fun w' => WS w w' gr g2 (schedA b (i + 1))) rfl ?_ ?_
      · rw [HX.out, HW.out]; exact hT.setI 0 rfl i _
      clear hT
      clear fz cc
      intro w5_35 hT
      refine wpT_end ?_
      try dsimp only

      go_wp2_with fail
      go_roundg (gk - 1)
      case measure => have := hq.out; omega
      case rel => exact ⟨i + 1, by omega, by go_num, hid (by have := hq.out; omega), hT⟩
    · obtain rfl : i = 16 := by omega
      have hA : Hd (schedA b 16 = schedB b 0) := hid rfl
      rw [hA.out] at hS
      clear hA
      go_wp2_with fail
      go_loopg [5] 49 (fun kq v5 wr => ∃ q : Nat, 16 ≤ q ∧ q ≤ 64 ∧ v5 = .int .i64 q ∧ Hd (kq + q = 65) ∧ WS w wr gr g2 (schedB b (q - 16)))
      case atStart => exact ⟨16, by omega, by omega, rfl, hid (by omega), hS⟩
      case round =>
        clear hS hq
        obtain ⟨q, hq1, hq2, rfl, hq, hS⟩ := hrel
        by_cases hlt : q < 64
        · have hlt2 : (q : Int) < 64 := by omega
          obtain ⟨p15, hp15⟩ : ∃ p : Nat, q - 15 = p := ⟨_, rfl⟩
          obtain ⟨p2, hp2⟩ : ∃ p : Nat, q - 2 = p := ⟨_, rfl⟩
          obtain ⟨p16, hp16⟩ : ∃ p : Nat, q - 16 = p := ⟨_, rfl⟩
          obtain ⟨p7, hp7⟩ : ∃ p : Nat, q - 7 = p := ⟨_, rfl⟩
          have e15 : (q : Int) - 15 = (p15 : Int) := by omega
          have e2 : (q : Int) - 2 = (p2 : Int) := by omega
          have e16 : (q : Int) - 16 = (p16 : Int) := by omega
          have e7 : (q : Int) - 7 = (p7 : Int) := by omega
          have l15 : p15 < 64 := by omega
          have l2 : p2 < 64 := by omega
          have l16 : p16 < 64 := by omega
          have l7 : p7 < 64 := by omega
          have HX := hid (schedB_succ b p16)
          rw [hp16] at hS
          have hq16 : 16 + p16 = q := by omega
          have HN : Hd (q + 1 - 16 = p16 + 1) := hid (by omega)
          rw [hq16] at HX
          have R := schedB_W32 b p16
          have HL := schedB_length b p16
          generalize schedB b p16 = ws at *
          obtain ⟨x15, hx15⟩ : ∃ x, rd ws p15 = x := ⟨_, rfl⟩
          obtain ⟨x2, hx2⟩ : ∃ x, rd ws p2 = x := ⟨_, rfl⟩
          obtain ⟨x16, hx16⟩ : ∃ x, rd ws p16 = x := ⟨_, rfl⟩
          obtain ⟨x7, hx7⟩ : ∃ x, rd ws p7 = x := ⟨_, rfl⟩
          obtain ⟨r15, s15⟩ : W32 x15 := hx15 ▸ rd_all R zero_W32 _
          obtain ⟨r2, s2⟩ : W32 x2 := hx2 ▸ rd_all R zero_W32 _
          obtain ⟨r16, s16⟩ : W32 x16 := hx16 ▸ rd_all R zero_W32 _
          obtain ⟨r7, s7⟩ : W32 x7 := hx7 ▸ rd_all R zero_W32 _
          have HW : Hd (schedW ws q = (x16 + sig 7 18 8 x15 + x7 + sig 17 19 1024 x2) % 4294967296) := hid (by unfold schedW; rw [hp15, hp2, hp16, hp7, hx15, hx2, hx16, hx7])
          have C15 : Hd (∀ {w'}, WS w w' gr g2 ws → w'.cell? ⟨g2, p15, none⟩ = some (.int .u32 x15)) := hid fun h => by rw [h.cellI 0 rfl p15 (by omega), hx15]
          have C2 : Hd (∀ {w'}, WS w w' gr g2 ws → w'.cell? ⟨g2, p2, none⟩ = some (.int .u32 x2)) := hid fun h => by rw [h.cellI 0 rfl p2 (by omega), hx2]
          have C16 : Hd (∀ {w'}, WS w w' gr g2 ws → w'.cell? ⟨g2, p16, none⟩ = some (.int .u32 x16)) := hid fun h => by rw [h.cellI 0 rfl p16 (by omega), hx16]
          have C7 : Hd (∀ {w'}, WS w w' gr g2 ws → w'.cell? ⟨g2, p7, none⟩ = some (.int .u32 x7)) := hid fun h => by rw [h.cellI 0 rfl p7 (by omega), hx7]
          have HQ : Hd (q < ws.length) := hid (by omega)
          have HL := hid HL
          clear hp15 hp2 hp16 hp7 hx15 hx2 hx16 hx7 R hq16
          have HL2 := HL
          go_wp2_with fail
          try go_wp2_with fail
          refine wp_region_L (T := fun w' => WS w w' gr g2 ws) (by kernel_rfl) (by kernel_rfl) hS.drew ?_
          intro wa hT
          show wpT _ _ _ _ [0, 1, 2, 3, 4, 5, 6, 7, 8, 9] _ _
          apply wpT_read (i := 0) rfl hT rfl -- Op.move t5
          · intro w' hT'
            simp only [List.getElem_toArray, List.getElem_cons_zero, List.getElem_cons_succ]
            go_wp2_with fail
            first | exact ⟨rfl, rfl, rfl⟩ | rfl
          apply wpT_read (i := 1) rfl hT rfl -- Op.binOp BinOp.sub 3 t51 (const (15:i64)) 3
          · intro w' hT'
            simp only [List.getElem_toArray, List.getElem_cons_zero, List.getElem_cons_succ]
            go_wp2_with fail
            first | exact ⟨rfl, rfl, rfl⟩ | rfl
          apply wpT_read (i := 2) rfl hT rfl -- Op.indexAddr 84 t3 t52
          · intro w' hT'
            simp only [List.getElem_toArray, List.getElem_cons_zero, List.getElem_cons_succ]
            go_wp2_with fail
            first | exact ⟨rfl, rfl, rfl⟩ | rfl
          apply wpT_read (i := 3) rfl hT rfl -- Op.load 73 t53
          · intro w' hT'
            simp only [List.getElem_toArray, List.getElem_cons_zero, List.getElem_cons_succ]
            have k15 := C15.out hT'
            have k2 := C2.out hT'
            go_wp2_with fail
            first | exact ⟨rfl, rfl, rfl⟩ | rfl
          apply wpT_read (i := 4) rfl hT rfl -- Op.move t5
          · intro w' hT'
            simp only [List.getElem_toArray, List.getElem_cons_zero, List.getElem_cons_succ]
            go_wp2_with fail
            first | exact ⟨rfl, rfl, rfl⟩ | rfl
          apply wpT_read (i := 5) rfl hT rfl -- Op.binOp BinOp.sub 3 t55 (const (2:i64)) 3
          · intro w' hT'
            simp only [List.getElem_toArray, List.getElem_cons_zero, List.getElem_cons_succ]
            go_wp2_with fail
            first | exact ⟨rfl, rfl, rfl⟩ | rfl
          apply wpT_read (i := 6) rfl hT rfl -- Op.indexAddr 84 t3 t56
          · intro w' hT'
            simp only [List.getElem_toArray, List.getElem_cons_zero, List.getElem_cons_succ]
            go_wp2_with fail
            first | exact ⟨rfl, rfl, rfl⟩ | rfl
          apply wpT_read (i := 7) rfl hT rfl -- Op.load 73 t57
          · intro w' hT'
            simp only [List.getElem_toArray, List.getElem_cons_zero, List.getElem_cons_succ]
            have k15 := C15.out hT'
            have k2 := C2.out hT'
            go_wp2_with fail
            first | exact ⟨rfl, rfl, rfl⟩ | rfl
          apply wpT_read (i := 8) rfl hT rfl -- Op.assign t54
          · intro w' hT'
            simp only [List.getElem_toArray, List.getElem_cons_zero, List.getElem_cons_succ]
            go_wp2_with fail
            first | exact ⟨rfl, rfl, rfl⟩ | rfl
          apply wpT_read (i := 9) rfl hT rfl -- Op.assign t58
          · intro w' hT'
            simp only [List.getElem_toArray, List.getElem_cons_zero, List.getElem_cons_succ]
            go_wp2_with fail
            first | exact ⟨rfl, rfl, rfl⟩ | rfl
          refine wpT_end ?_
          try dsimp only

          replace hS := hT
          clear hT
          go_wp2_with fail
          try go_wp2_with fail
          refine wp_region_L (T := fun w' => WS w w' gr g2 ws) (by kernel_rfl) (by kernel_rfl) hS.drew ?_
          intro wa hT
          show wpT _ _ _ _ [0, 1, 2, 3, 4, 5, 6, 7, 8, 9, 10, 11, 12, 13, 14, 15, 16, 17, 18, 19, 20, 21, 22, 23, 24, 25, 26, 27, 28, 29] _ _
          apply wpT_read (i := 0) rfl hT rfl -- Op.move t5
          · intro w' hT'
            simp only [List.getElem_toArray, List.getElem_cons_zero, List.getElem_cons_succ]
            go_wp2_with fail
            first | exact ⟨rfl, rfl, rfl⟩ | rfl
          apply wpT_read (i := 1) rfl hT rfl -- Op.move t5
          · intro w' hT'
            simp only [List.getElem_toArray, List.getElem_cons_zero, List.getElem_cons_succ]
            go_wp2_with fail
            first | exact ⟨rfl, rfl, rfl⟩ | rfl
          apply wpT_read (i := 2) rfl hT rfl -- Op.binOp BinOp.sub 3 t60 (const (16:i64)) 3
          · intro w' hT'
            simp only [List.getElem_toArray, List.getElem_cons_zero, List.getElem_cons_succ]
            go_wp2_with fail
            first | exact ⟨rfl, rfl, rfl⟩ | rfl
          apply wpT_read (i := 3) rfl hT rfl -- Op.indexAddr 84 t3 t61
          · intro w' hT'
            simp only [List.getElem_toArray, List.getElem_cons_zero, List.getElem_cons_succ]
            go_wp2_with fail
            first | exact ⟨rfl, rfl, rfl⟩ | rfl
          apply wpT_read (i := 4) rfl hT rfl -- Op.load 73 t62
          · intro w' hT'
            simp only [List.getElem_toArray, List.getElem_cons_zero, List.getElem_cons_succ]
            have k16 := C16.out hT'
            have k7 := C7.out hT'
            go_wp2_with fail
            first | exact ⟨rfl, rfl, rfl⟩ | rfl
          apply wpT_read (i := 5) rfl hT rfl -- Op.move t6
          · intro w' hT'
            simp only [List.getElem_toArray, List.getElem_cons_zero, List.getElem_cons_succ]
            go_wp2_with fail
            first | exact ⟨rfl, rfl, rfl⟩ | rfl
          refine wpT_actL (i := 6) rfl rfl ?_ -- Op.call { value (Operand.func 54), args := #[t64, const (7:i64)], ar
          simp only [List.getElem_toArray, List.getElem_cons_zero, List.getElem_cons_succ]
          go_wp2_with (first
            | (go_at_call 112; refine (right7_calls x15 _ r15 s15).mono ?_; rintro e w1 ⟨rfl, rfl⟩)
            | fail)
          refine OnT.mk rfl ?_ ?_
          · exact hT
          clear hT
          intro w11_6 hT
          apply wpT_read (i := 7) rfl hT rfl -- Op.move t6
          · intro w' hT'
            simp only [List.getElem_toArray, List.getElem_cons_zero, List.getElem_cons_succ]
            go_wp2_with fail
            first | exact ⟨rfl, rfl, rfl⟩ | rfl
          refine wpT_actL (i := 8) rfl rfl ?_ -- Op.call { value (Operand.func 54), args := #[t66, const (18:i64)], a
          simp only [List.getElem_toArray, List.getElem_cons_zero, List.getElem_cons_succ]
          go_wp2_with (first
            | (go_at_call 112; refine (right18_calls x15 _ r15 s15).mono ?_; rintro e w1 ⟨rfl, rfl⟩)
            | fail)
          refine OnT.mk rfl ?_ ?_
          · exact hT
          clear hT
          intro w11_8 hT
          apply wpT_read (i := 9) rfl hT rfl -- Op.binOp BinOp.xor 73 t65 t67 73
          · intro w' hT'
            simp only [List.getElem_toArray, List.getElem_cons_zero, List.getElem_cons_succ]
            go_wp2_with fail
            first | exact ⟨rfl, rfl, rfl⟩ | rfl
          apply wpT_read (i := 10) rfl hT rfl -- Op.move t6
          · intro w' hT'
            simp only [List.getElem_toArray, List.getElem_cons_zero, List.getElem_cons_succ]
            go_wp2_with fail
            first | exact ⟨rfl, rfl, rfl⟩ | rfl
          apply wpT_read (i := 11) rfl hT rfl -- Op.binOp BinOp.shr 73 t69 (const (3:u64)) 63
          · intro w' hT'
            simp only [List.getElem_toArray, List.getElem_cons_zero, List.getElem_cons_succ]
            go_wp2_with fail
            first | exact ⟨rfl, rfl, rfl⟩ | rfl
          apply wpT_read (i := 12) rfl hT rfl -- Op.binOp BinOp.xor 73 t68 t70 73
          · intro w' hT'
            simp only [List.getElem_toArray, List.getElem_cons_zero, List.getElem_cons_succ]
            go_wp2_with fail
            first | exact ⟨rfl, rfl, rfl⟩ | rfl
          apply wpT_read (i := 13) rfl hT rfl -- Op.binOp BinOp.add 73 t63 t71 73
          · intro w' hT'
            simp only [List.getElem_toArray, List.getElem_cons_zero, List.getElem_cons_succ]
            go_wp2_with fail
            first | exact ⟨rfl, rfl, rfl⟩ | rfl
          apply wpT_read (i := 14) rfl hT rfl -- Op.move t5
          · intro w' hT'
            simp only [List.getElem_toArray, List.getElem_cons_zero, List.getElem_cons_succ]
            go_wp2_with fail
            first | exact ⟨rfl, rfl, rfl⟩ | rfl
          apply wpT_read (i := 15) rfl hT rfl -- Op.binOp BinOp.sub 3 t73 (const (7:i64)) 3
          · intro w' hT'
            simp only [List.getElem_toArray, List.getElem_cons_zero, List.getElem_cons_succ]
            go_wp2_with fail
            first | exact ⟨rfl, rfl, rfl⟩ | rfl
          apply wpT_read (i := 16) rfl hT rfl -- Op.indexAddr 84 t3 t74
          · intro w' hT'
            simp only [List.getElem_toArray, List.getElem_cons_zero, List.getElem_cons_succ]
            go_wp2_with fail
            first | exact ⟨rfl, rfl, rfl⟩ | rfl
          apply wpT_read (i := 17) rfl hT rfl -- Op.load 73 t75
          · intro w' hT'
            simp only [List.getElem_toArray, List.getElem_cons_zero, List.getElem_cons_succ]
            have k16 := C16.out hT'
            have k7 := C7.out hT'
            go_wp2_with fail
            first | exact ⟨rfl, rfl, rfl⟩ | rfl
          apply wpT_read (i := 18) rfl hT rfl -- Op.binOp BinOp.add 73 t72 t76 73
          · intro w' hT'
            simp only [List.getElem_toArray, List.getElem_cons_zero, List.getElem_cons_succ]
            go_wp2_with fail
            first | exact ⟨rfl, rfl, rfl⟩ | rfl
          apply wpT_read (i := 19) rfl hT rfl -- Op.move t7
          · intro w' hT'
            simp only [List.getElem_toArray, List.getElem_cons_zero, List.getElem_cons_succ]
            go_wp2_with fail
            first | exact ⟨rfl, rfl, rfl⟩ | rfl
          refine wpT_actL (i := 20) rfl rfl ?_ -- Op.call { value (Operand.func 54), args := #[t78, const (17:i64)], a
          simp only [List.getElem_toArray, List.getElem_cons_zero, List.getElem_cons_succ]
          go_wp2_with (first
            | (go_at_call 112; refine (right17_calls x2 _ r2 s2).mono ?_; rintro e w1 ⟨rfl, rfl⟩)
            | fail)
          refine OnT.mk rfl ?_ ?_
          · exact hT
          clear hT
          intro w11_20 hT
          apply wpT_read (i := 21) rfl hT rfl -- Op.move t7
          · intro w' hT'
            simp only [List.getElem_toArray, List.getElem_cons_zero, List.getElem_cons_succ]
            go_wp2_with fail
            first | exact ⟨rfl, rfl, rfl⟩ | rfl
          refine wpT_actL (i := 22) rfl rfl ?_ -- Op.call { value (Operand.func 54), args := #[t80, const (19:i64)], a
          simp only [List.getElem_toArray, List.getElem_cons_zero, List.getElem_cons_succ]
          go_wp2_with (first
            | (go_at_call 112; refine (right19_calls x2 _ r2 s2).mono ?_; rintro e w1 ⟨rfl, rfl⟩)
            | fail)
          refine OnT.mk rfl ?_ ?_
          · exact hT
          clear hT
          intro w11_22 hT
          apply wpT_read (i := 23) rfl hT rfl -- Op.binOp BinOp.xor 73 t79 t81 73
          · intro w' hT'
            simp only [List.getElem_toArray, List.getElem_cons_zero, List.getElem_cons_succ]
            go_wp2_with fail
            first | exact ⟨rfl, rfl, rfl⟩ | rfl
          apply wpT_read (i := 24) rfl hT rfl -- Op.move t7
          · intro w' hT'
            simp only [List.getElem_toArray, List.getElem_cons_zero, List.getElem_cons_succ]
            go_wp2_with fail
            first | exact ⟨rfl, rfl, rfl⟩ | rfl
          apply wpT_read (i := 25) rfl hT rfl -- Op.binOp BinOp.shr 73 t83 (const (10:u64)) 63
          · intro w' hT'
            simp only [List.getElem_toArray, List.getElem_cons_zero, List.getElem_cons_succ]
            go_wp2_with fail
            first | exact ⟨rfl, rfl, rfl⟩ | rfl
          apply wpT_read (i := 26) rfl hT rfl -- Op.binOp BinOp.xor 73 t82 t84 73
          · intro w' hT'
            simp only [List.getElem_toArray, List.getElem_cons_zero, List.getElem_cons_succ]
            go_wp2_with fail
            first | exact ⟨rfl, rfl, rfl⟩ | rfl
          apply wpT_read (i := 27) rfl hT rfl -- Op.binOp BinOp.add 73 t77 t85 73
          · intro w' hT'
            simp only [List.getElem_toArray, List.getElem_cons_zero, List.getElem_cons_succ]
            go_wp2_with fail
            first | exact ⟨rfl, rfl, rfl⟩ | rfl
          apply wpT_read (i := 28) rfl hT rfl -- Op.indexAddr 84 t3 t59
          · intro w' hT'
            simp only [List.getElem_toArray, List.getElem_cons_zero, List.getElem_cons_succ]
            go_wp2_with fail
            first | exact ⟨rfl, rfl, rfl⟩ | rfl
          refine wpT_totL (i := 29) rfl rfl (by kernel_rfl) ?_ -- Op.store 73 t87 t86
          simp only [List.getElem_toArray, List.getElem_cons_zero, List.getElem_cons_succ]
          have fz := hT.frozen 0 rfl q
          have cc := hT.cellI 0 rfl q HQ.out
          go_wp2_with fail
          refine OnX.mk (fun w' => WS w w' gr g2 (schedB b (p16 + 1))) rfl ?_ ?_
          · rw [HX.out, HW.out]; exact hT.setI 0 rfl q _
          clear hT
          clear fz cc
          intro w11_29 hT
          refine wpT_end ?_
          try dsimp only

          go_wp2_with fail
          go_roundg (gk - 1)
          case measure => have := hq.out; omega
          case rel => exact ⟨q + 1, by omega, by omega, by go_num, hid (by have := hq.out; omega), by rw [HN.out]; exact hT⟩
        · obtain rfl : q = 64 := by omega
          clear hlt hq1 hq2
          replace hS : WS w wr gr g2 (sched b) := hS
          have HL : Hd ((sched b).length = 64) := hid (schedB_length b 48)
          obtain ⟨ws, hws⟩ : ∃ ws, Hd (sched b = ws) := ⟨_, hid rfl⟩
          rw [hws.out] at hS HL
          go_wp2_with (first
            | (refine hs_loadN hS 0 rfl rfl 134 _ rfl 0 rfl (ints .u32 ws) (fun m v h => by rw [Nat.zero_add]; exact h) 64 infoW64 (by simp [HL.out]) _ arrW64 rfl _ rfl ?_)
            | (refine hs_storeN hS 1 rfl rfl 134 _ _ rfl 0 rfl (ints .u32 ws) rfl (fun v hv => by obtain ⟨y, _, rfl⟩ := List.mem_map.1 hv; rfl) 64 infoW64 (by simp [HL.out]) (by simp) _ rfl ?_; intro w9 hS)
            | fail)
          have hb := hS.blk 1 rfl
          simp only [List.take_zero, List.nil_append, Nat.zero_add] at hb
          rw [List.drop_eq_nil_of_le (by simp), List.append_nil] at hb
          refine bodyPost_ret (results_blk rfl _ _ gr _ _ 64 _ rfl hb arrW64 (by simp [HL.out]) infoW64) rfl ⟨by rw [hws.out], hS.bel⟩
end Go.Proofs.YtckcdngnkpfcfaaDoor
/- The program's numbers of the rounds; a block taken in. -/
namespace Go.Proofs.YtckcdngnkpfcfaaDoor
open Go.RowKit Go.Cour
theorem infoW8 : (Tryd.prog.info? 94).map (·.size) = some 8 := by kernel_rfl
theorem arrW8 : Tryd.prog.underlying 94 = some (.array 8 29) := by kernel_rfl
theorem zeroW8 : ((Tryd.prog.info? 94).bind (·.zero)).map (·.cells) = some (ints .u32 (List.replicate 8 0)).toArray := by kernel_rfl
theorem sizeU32 : (Tryd.prog.info? 29).map (·.size) = some 1 := by kernel_rfl
set_option maxRecDepth 100000 in
theorem round_calls (w : World) :
    Calls Tryd.prog 111 #[] w fun e w' => e = .returned (.agg (ints .u32 shaK).toArray) ∧ Below w.heap.size w w' := by
  have hS := HS.start NoF w
  go_enter Tryd.func111, Tryd.ntmps111
  go_wp2_with (first
    | (refine alloc_blk rfl 134 rfl _ rfl (ints .u32 (List.replicate 64 0)) zeroW64 ?_; intro gr w2 hga hba hBa hsa; replace hS := hS.pushBlk hBa hba hga; clear hga hba hBa hsa)
    | (refine wpList_buildFlatArr rfl 134 29 64 _ rfl .u32 shaK arrW64 sizeU32 (by kernel_rfl) (by rfl) ?_)
    | (refine hs_storeN hS 0 rfl rfl 134 _ _ rfl 0 rfl (ints .u32 shaK) rfl (ints_one' _ _) 64 infoW64 (by rfl) (by simp) _ rfl ?_; intro w9 hS)
    | fail)
  have hb := hS.blk 0 rfl
  simp only [List.take_zero, List.nil_append, Nat.zero_add] at hb
  rw [List.drop_eq_nil_of_le (by simp), List.append_nil] at hb
  exact bodyPost_ret (results_blk rfl _ _ gr _ _ 64 _ rfl hb arrW64 (by rfl) infoW64) rfl ⟨rfl, hS.bel⟩
/-- What the blocks of mix hold. -/
abbrev MS (w wr : World) (gh g4 g5 g6 : Nat) (h ws ks s : List Int) (vr vn : Value) : Prop :=
  HS (fun k => k = gh) w wr [.blk g6 94 (ints .u32 s), .blk g5 134 (ints .u32 ks), .blk g4 134 (ints .u32 ws), .blk gh 154 (ints .u32 h ++ [vr, vn])]
set_option maxHeartbeats 2000000 in
set_option maxRecDepth 100000 in
theorem mix_calls (h b : List Int) (gh g o n c : Nat) (vr vn : Value) (w : World) (hb : Blk w gh 154 (ints .u32 h ++ [vr, vn])) (hl : h.length = 8) (hh : ∀ x ∈ h, W32 x) (hat : At w g o b 64) (hne : g ≠ gh) (hr : ∀ i, 0 ≤ rd b i ∧ rd b i < 256) (hn : 64 ≤ n) :
    Calls Tryd.prog 98 #[.pointer (some ⟨gh, 0, none⟩), .slice (some ⟨g, o, none⟩) n c] w fun e w' => e = .returned (.tuple #[]) ∧ Upd (fun k => k = gh) w w' ∧ Blk w' gh 154 (ints .u32 (shaBlock h b) ++ [vr, vn]) := by
  have HAT := hid hat
  have HR := hid hr
  have hS := (HS.start (fun k => k = gh) w).take (.blk gh 154 (ints .u32 h ++ [vr, vn])) hb (fun k hk => .inl hk) (fun f hf => by simp at hf)
  have HL := hid hl
  obtain ⟨ws, hws⟩ : ∃ ws, Hd (sched b = ws) := ⟨_, hid rfl⟩
  obtain ⟨ks, hks⟩ : ∃ ks, Hd (shaK = ks) := ⟨_, hid rfl⟩
  have HLs : Hd (ws.length = 64) := hid (by rw [← hws.out]; exact schedB_length b 48)
  have HLk : Hd (ks.length = 64) := hid (by rw [← hks.out]; rfl)
  clear hat hr hb hl
  go_enter Tryd.func98, Tryd.ntmps98
  try go_wp2_with fail
  refine wp_region_S (F := (fun k => k = gh)) (w0 := w) (L0 := [.blk gh 154 (ints .u32 h ++ [vr, vn])]) [1, 2, 7, 8, 9] [10, 11, 12]
    (fun iK u E => match iK with
      | 1 => u = .agg (ints .u32 ws).toArray ∧ E = []
      | 2 => u = .agg (ints .u32 ks).toArray ∧ E = []
      | 7 => ∃ g, u = .pointer (some ⟨g, 0, none⟩) ∧ E = [.blk g 134 (ints .u32 (List.replicate 64 0))]
      | 8 => ∃ g, u = .pointer (some ⟨g, 0, none⟩) ∧ E = [.blk g 134 (ints .u32 (List.replicate 64 0))]
      | 9 => ∃ g, u = .pointer (some ⟨g, 0, none⟩) ∧ E = [.blk g 94 (ints .u32 (List.replicate 8 0))]
      | _ => False)
    ([]) (by kernel_rfl) (by kernel_rfl) hS ?_
  show wpS _ _ _ _ _ _ _ _ _ _ [0, 1, 2, 3, 4, 5, 6, 7, 8, 9, 10, 11, 12] _
  apply wpS_read (i := 0) rfl rfl ⟨_, hS⟩ rfl -- Op.move t1
  · intro w' hT'
    simp only [List.getElem_toArray, List.getElem_cons_zero, List.getElem_cons_succ]
    go_wp2_with fail
    first | exact ⟨rfl, rfl, rfl⟩ | rfl
  refine wpS_soft (i := 1) rfl rfl rfl (Nat.le_of_ble_eq_true rfl) ?_ ?_ -- Op.call { value (Operand.func 52), args := #[t13], argTypes := #[41]
  · intro w' hT
    simp only [List.getElem_toArray, List.getElem_cons_zero, List.getElem_cons_succ]
    go_wp2_with (first
      | (go_at_call 110; refine (words_calls b g o n c _ (fun i hi => hT.oldCell (HAT.out i hi) hne) HR.out hn).mono ?_; rintro e wz ⟨rfl, hB⟩; rw [hws.out])
      | fail)
    exact SoftP.mk' (.agg (ints .u32 ws).toArray) ([]) rfl (⟨rfl, rfl⟩) (hT.below hB) (hB) (fun _ h => by cases h)
  intro u1 E1 hK1
  obtain ⟨rfl, rfl⟩ := hK1
  simp only [Act.put, List.setIfInBounds_toArray, List.set_cons_zero, List.set_cons_succ]
  refine wpS_soft (i := 2) rfl rfl rfl (Nat.le_of_ble_eq_true rfl) ?_ ?_ -- Op.call { value (Operand.func 53), args := #[], argTypes := #[] }
  · intro w' hT
    simp only [List.getElem_toArray, List.getElem_cons_zero, List.getElem_cons_succ]
    go_wp2_with (first
      | (go_at_call 111; refine (round_calls _).mono ?_; rintro e wz ⟨rfl, hB⟩; rw [hks.out])
      | fail)
    exact SoftP.mk' (.agg (ints .u32 ks).toArray) ([]) rfl (⟨rfl, rfl⟩) (hT.below hB) (hB) (fun _ h => by cases h)
  intro u2 E2 hK2
  obtain ⟨rfl, rfl⟩ := hK2
  simp only [Act.put, List.setIfInBounds_toArray, List.set_cons_zero, List.set_cons_succ]
  apply wpS_read (i := 3) rfl rfl ⟨_, hS⟩ rfl -- Op.move t0
  · intro w' hT'
    simp only [List.getElem_toArray, List.getElem_cons_zero, List.getElem_cons_succ]
    go_wp2_with fail
    first | exact ⟨rfl, rfl, rfl⟩ | rfl
  apply wpS_read (i := 4) rfl rfl ⟨_, hS⟩ rfl -- Op.nilCheck t16
  · intro w' hT'
    simp only [List.getElem_toArray, List.getElem_cons_zero, List.getElem_cons_succ]
    go_wp2_with fail
    first | exact ⟨rfl, rfl, rfl⟩ | rfl
  apply wpS_read (i := 5) rfl rfl ⟨_, hS⟩ rfl -- Op.fieldAddr 94 t17 0
  · intro w' hT'
    simp only [List.getElem_toArray, List.getElem_cons_zero, List.getElem_cons_succ]
    go_wp2_with fail
    first | exact ⟨rfl, rfl, rfl⟩ | rfl
  apply wpS_read (i := 6) rfl rfl ⟨_, hS⟩ rfl -- Op.load 74 t18
  · intro w' hT'
    simp only [List.getElem_toArray, List.getElem_cons_zero, List.getElem_cons_succ]
    go_wp2_with (first
      | (refine hs_loadN hT' 0 rfl rfl 94 _ rfl 0 rfl (ints .u32 h) (fun m v hv => by rw [Nat.zero_add, List.getElem?_append_left (List.getElem?_eq_some_iff.1 hv).1]; exact hv) 8 infoW8 (by simp [HL.out]) _ arrW8 rfl _ rfl ?_)
      | fail)
    first | exact ⟨rfl, rfl, rfl⟩ | rfl
  refine wpS_soft (i := 7) rfl rfl rfl (Nat.le_of_ble_eq_true rfl) ?_ ?_ -- Op.alloc 84
  · intro w' hT
    simp only [List.getElem_toArray, List.getElem_cons_zero, List.getElem_cons_succ]
    go_wp2_with (first
      | (refine alloc_blk rfl 134 rfl _ rfl (ints .u32 (List.replicate 64 0)) zeroW64 ?_; intro ga wz hga hba hBa hsa)
      | fail)
    exact SoftP.mk' (.pointer (some ⟨ga, 0, none⟩)) ([.blk ga 134 (ints .u32 (List.replicate 64 0))]) rfl (⟨ga, rfl, rfl⟩) (hT.pushBlk hBa hba hga) (hBa) (fun e he k hk => by simp at he; subst he; have : k = ga := hk; omega)
  intro u7 E7 hK7
  obtain ⟨g4, rfl, rfl⟩ := hK7
  simp only [Act.put, List.setIfInBounds_toArray, List.set_cons_zero, List.set_cons_succ]
  refine wpS_soft (i := 8) rfl rfl rfl (Nat.le_of_ble_eq_true rfl) ?_ ?_ -- Op.alloc 84
  · intro w' hT
    simp only [List.getElem_toArray, List.getElem_cons_zero, List.getElem_cons_succ]
    go_wp2_with (first
      | (refine alloc_blk rfl 134 rfl _ rfl (ints .u32 (List.replicate 64 0)) zeroW64 ?_; intro ga wz hga hba hBa hsa)
      | fail)
    exact SoftP.mk' (.pointer (some ⟨ga, 0, none⟩)) ([.blk ga 134 (ints .u32 (List.replicate 64 0))]) rfl (⟨ga, rfl, rfl⟩) (hT.pushBlk hBa hba hga) (hBa) (fun e he k hk => by simp at he; subst he; have : k = ga := hk; omega)
  intro u8 E8 hK8
  obtain ⟨g5, rfl, rfl⟩ := hK8
  simp only [Act.put, List.setIfInBounds_toArray, List.set_cons_zero, List.set_cons_succ]
  refine wpS_soft (i := 9) rfl rfl rfl (Nat.le_of_ble_eq_true rfl) ?_ ?_ -- Op.alloc 74
  · intro w' hT
    simp only [List.getElem_toArray, List.getElem_cons_zero, List.getElem_cons_succ]
    go_wp2_with (first
      | (refine alloc_blk rfl 94 rfl _ rfl (ints .u32 (List.replicate 8 0)) zeroW8 ?_; intro ga wz hga hba hBa hsa)
      | fail)
    exact SoftP.mk' (.pointer (some ⟨ga, 0, none⟩)) ([.blk ga 94 (ints .u32 (List.replicate 8 0))]) rfl (⟨ga, rfl, rfl⟩) (hT.pushBlk hBa hba hga) (hBa) (fun e he k hk => by simp at he; subst he; have : k = ga := hk; omega)
  intro u9 E9 hK9
  obtain ⟨g6, rfl, rfl⟩ := hK9
  simp only [Act.put, List.setIfInBounds_toArray, List.set_cons_zero, List.set_cons_succ]
  refine wpS_hard (i := 10) rfl rfl ?_ -- Op.store 84 t4 t14
  intro w10 hT
  replace hT : HS (fun k => k = gh) w w10 [.blk g6 94 (ints .u32 (List.replicate 8 0)), .blk g5 134 (ints .u32 (List.replicate 64 0)), .blk g4 134 (ints .u32 (List.replicate 64 0)), .blk gh 154 (ints .u32 h ++ [vr, vn])] := hT
  simp only [List.getElem_toArray, List.getElem_cons_zero, List.getElem_cons_succ]
  go_wp2_with (first
    | (refine hs_storeW hT 2 rfl rfl 134 _ _ rfl rfl (ints .u32 ws) rfl (ints_one' _ _) _ infoW64 (by simp [HLs.out]) (by simp) _ rfl ?_; intro wz hT)
    | fail)
  refine HardP.mk' ([.blk g6 94 (ints .u32 (List.replicate 8 0)), .blk g5 134 (ints .u32 (List.replicate 64 0)), .blk g4 134 (ints .u32 ws)]) rfl ?_ ?_
  · exact hT
  clear hT
  refine wpS_hard (i := 11) rfl rfl ?_ -- Op.store 84 t5 t15
  intro w11 hT
  replace hT : HS (fun k => k = gh) w w11 [.blk g6 94 (ints .u32 (List.replicate 8 0)), .blk g5 134 (ints .u32 (List.replicate 64 0)), .blk g4 134 (ints .u32 ws), .blk gh 154 (ints .u32 h ++ [vr, vn])] := hT
  simp only [List.getElem_toArray, List.getElem_cons_zero, List.getElem_cons_succ]
  go_wp2_with (first
    | (refine hs_storeW hT 1 rfl rfl 134 _ _ rfl rfl (ints .u32 ks) rfl (ints_one' _ _) _ infoW64 (by simp [HLk.out]) (by simp) _ rfl ?_; intro wz hT)
    | fail)
  refine HardP.mk' ([.blk g6 94 (ints .u32 (List.replicate 8 0)), .blk g5 134 (ints .u32 ks), .blk g4 134 (ints .u32 ws)]) rfl ?_ ?_
  · exact hT
  clear hT
  refine wpS_hard (i := 12) rfl rfl ?_ -- Op.store 74 t6 t19
  intro w12 hT
  replace hT : HS (fun k => k = gh) w w12 [.blk g6 94 (ints .u32 (List.replicate 8 0)), .blk g5 134 (ints .u32 ks), .blk g4 134 (ints .u32 ws), .blk gh 154 (ints .u32 h ++ [vr, vn])] := hT
  simp only [List.getElem_toArray, List.getElem_cons_zero, List.getElem_cons_succ]
  go_wp2_with (first
    | (refine hs_storeW hT 0 rfl rfl 94 _ _ rfl rfl (ints .u32 h) rfl (ints_one' _ _) _ infoW8 (by simp [HL.out]) (by simp) _ rfl ?_; intro wz hT)
    | fail)
  refine HardP.mk' ([.blk g6 94 (ints .u32 h), .blk g5 134 (ints .u32 ks), .blk g4 134 (ints .u32 ws)]) rfl ?_ ?_
  · exact hT
  clear hT
  refine wpS_end ?_
  intro wz hT
  try dsimp only

  have hS0 : MS w wz gh g4 g5 g6 h ws ks (roundsS b h 0) vr vn := hT
  clear hT hS
  go_wp2_with fail
  go_loopg [7, 8, 9, 10, 11, 20] 65 (fun kq v7 v8 v9 v10 v11 v20 wr => ∃ i : Nat, i ≤ 64 ∧ v20 = .int .i64 i ∧ Hd (kq + i = 65) ∧ MS w wr gh g4 g5 g6 h ws ks (roundsS b h i) vr vn)
  case atStart => exact ⟨0, by omega, rfl, hid (by omega), hS0⟩
  case round =>
    clear hS0
    obtain ⟨i, hi, rfl, hq, hS⟩ := hrel
    by_cases hlt : i < 64
    · have hlt2 : (i : Int) < 64 := by omega
      have HX := hid (roundsS_succ b h i)
      rw [hws.out] at HX
      have R := roundsS_W32 b h hh i
      have HL8 := roundsS_length b h HL.out i
      generalize roundsS b h i = ss at *
      obtain ⟨x0, x1, x2, x3, x4, x5, x6, x7, rfl⟩ : ∃ x0 x1 x2 x3 x4 x5 x6 x7, ss = [x0, x1, x2, x3, x4, x5, x6, x7] := by
        match ss, HL8 with
        | [x0, x1, x2, x3, x4, x5, x6, x7], _ => exact ⟨_, _, _, _, _, _, _, _, rfl⟩
      obtain ⟨⟨r0, s0⟩, ⟨r1, s1⟩, ⟨r2, s2⟩, ⟨r3, s3⟩, ⟨r4, s4⟩, ⟨r5, s5⟩, ⟨r6, s6⟩, ⟨r7, s7⟩⟩ : W32 x0 ∧ W32 x1 ∧ W32 x2 ∧ W32 x3 ∧ W32 x4 ∧ W32 x5 ∧ W32 x6 ∧ W32 x7 := by
        refine ⟨R _ ?_, R _ ?_, R _ ?_, R _ ?_, R _ ?_, R _ ?_, R _ ?_, R _ ?_⟩ <;> simp
      clear R HL8
      obtain ⟨ki, hki⟩ : ∃ k, Hd (rd ks i = k) := ⟨_, hid rfl⟩
      obtain ⟨wi, hwi⟩ : ∃ k, Hd (rd ws i = k) := ⟨_, hid rfl⟩
      obtain ⟨rk, sk⟩ : W32 ki := by rw [← hki.out, ← hks.out]; exact shaK_W32 i
      obtain ⟨rw_, sw_⟩ : W32 wi := by rw [← hwi.out, ← hws.out]; exact rd_all (schedB_W32 b 48) zero_W32 _
      have CK : Hd (∀ {w'}, MS w w' gh g4 g5 g6 h ws ks [x0, x1, x2, x3, x4, x5, x6, x7] vr vn → w'.cell? ⟨g5, i, none⟩ = some (.int .u32 ki)) := hid fun h => by rw [h.cellI 1 rfl i (by rw [HLk.out]; exact hlt), hki.out]
      have CW : Hd (∀ {w'}, MS w w' gh g4 g5 g6 h ws ks [x0, x1, x2, x3, x4, x5, x6, x7] vr vn → w'.cell? ⟨g4, i, none⟩ = some (.int .u32 wi)) := hid fun h => by rw [h.cellI 2 rfl i (by rw [HLs.out]; exact hlt), hwi.out]
      try go_wp2_with fail
      refine wp_region_L (T := fun w' => MS w w' gh g4 g5 g6 h ws ks [x0, x1, x2, x3, x4, x5, x6, x7] vr vn) (by kernel_rfl) (by kernel_rfl) hS.drew ?_
      intro wa hT
      show wpT _ _ _ _ [0, 1, 2, 3, 4, 5] _ _
      apply wpT_read (i := 0) rfl hT rfl -- Op.indexAddr 74 t6 (const (0:i64))
      · intro w' hT'
        simp only [List.getElem_toArray, List.getElem_cons_zero, List.getElem_cons_succ]
        go_wp2_with fail
        first | exact ⟨rfl, rfl, rfl⟩ | rfl
      apply wpT_read (i := 1) rfl hT rfl -- Op.load 73 t23
      · intro w' hT'
        simp only [List.getElem_toArray, List.getElem_cons_zero, List.getElem_cons_succ]
        have cx0 : w'.cell? ⟨g6, 0, none⟩ = some (.int .u32 x0) := hT'.cell 0 rfl 0
        have cx4 : w'.cell? ⟨g6, 4, none⟩ = some (.int .u32 x4) := hT'.cell 0 rfl 4
        go_wp2_with fail
        first | exact ⟨rfl, rfl, rfl⟩ | rfl
      apply wpT_read (i := 2) rfl hT rfl -- Op.indexAddr 74 t6 (const (4:i64))
      · intro w' hT'
        simp only [List.getElem_toArray, List.getElem_cons_zero, List.getElem_cons_succ]
        go_wp2_with fail
        first | exact ⟨rfl, rfl, rfl⟩ | rfl
      apply wpT_read (i := 3) rfl hT rfl -- Op.load 73 t25
      · intro w' hT'
        simp only [List.getElem_toArray, List.getElem_cons_zero, List.getElem_cons_succ]
        have cx0 : w'.cell? ⟨g6, 0, none⟩ = some (.int .u32 x0) := hT'.cell 0 rfl 0
        have cx4 : w'.cell? ⟨g6, 4, none⟩ = some (.int .u32 x4) := hT'.cell 0 rfl 4
        go_wp2_with fail
        first | exact ⟨rfl, rfl, rfl⟩ | rfl
      apply wpT_read (i := 4) rfl hT rfl -- Op.assign t24
      · intro w' hT'
        simp only [List.getElem_toArray, List.getElem_cons_zero, List.getElem_cons_succ]
        go_wp2_with fail
        first | exact ⟨rfl, rfl, rfl⟩ | rfl
      apply wpT_read (i := 5) rfl hT rfl -- Op.assign t26
      · intro w' hT'
        simp only [List.getElem_toArray, List.getElem_cons_zero, List.getElem_cons_succ]
        go_wp2_with fail
        first | exact ⟨rfl, rfl, rfl⟩ | rfl
      refine wpT_end ?_
      try dsimp only

      replace hS := hT
      clear hT
      try go_wp2_with fail
      refine wp_region_L (T := fun w' => MS w w' gh g4 g5 g6 h ws ks [x0, x1, x2, x3, x4, x5, x6, x7] vr vn) (by kernel_rfl) (by kernel_rfl) hS.drew ?_
      intro wa hT
      show wpT _ _ _ _ [0, 1, 2, 3, 4, 5, 6, 7, 8, 9, 10, 11, 12, 13, 14, 15, 16, 17, 18, 19, 20, 21, 22, 23, 24, 25, 26, 27, 28, 29, 30] _ _
      apply wpT_read (i := 0) rfl hT rfl -- Op.indexAddr 74 t6 (const (7:i64))
      · intro w' hT'
        simp only [List.getElem_toArray, List.getElem_cons_zero, List.getElem_cons_succ]
        go_wp2_with fail
        first | exact ⟨rfl, rfl, rfl⟩ | rfl
      apply wpT_read (i := 1) rfl hT rfl -- Op.load 73 t27
      · intro w' hT'
        simp only [List.getElem_toArray, List.getElem_cons_zero, List.getElem_cons_succ]
        have cx7 : w'.cell? ⟨g6, 7, none⟩ = some (.int .u32 x7) := hT'.cell 0 rfl 7
        have cx5 : w'.cell? ⟨g6, 5, none⟩ = some (.int .u32 x5) := hT'.cell 0 rfl 5
        have cx6 : w'.cell? ⟨g6, 6, none⟩ = some (.int .u32 x6) := hT'.cell 0 rfl 6
        have ck := CK.out hT'
        have cw := CW.out hT'
        go_wp2_with fail
        first | exact ⟨rfl, rfl, rfl⟩ | rfl
      apply wpT_read (i := 2) rfl hT rfl -- Op.move t9
      · intro w' hT'
        simp only [List.getElem_toArray, List.getElem_cons_zero, List.getElem_cons_succ]
        go_wp2_with fail
        first | exact ⟨rfl, rfl, rfl⟩ | rfl
      refine wpT_actL (i := 3) rfl rfl ?_ -- Op.call { value (Operand.func 54), args := #[t29, const (6:i64)], ar
      simp only [List.getElem_toArray, List.getElem_cons_zero, List.getElem_cons_succ]
      go_wp2_with (first
        | (go_at_call 112; refine (right6_calls x4 _ r4 s4).mono ?_; rintro e w1 ⟨rfl, rfl⟩)
        | fail)
      refine OnT.mk rfl ?_ ?_
      · exact hT
      clear hT
      intro w5_3 hT
      apply wpT_read (i := 4) rfl hT rfl -- Op.move t9
      · intro w' hT'
        simp only [List.getElem_toArray, List.getElem_cons_zero, List.getElem_cons_succ]
        go_wp2_with fail
        first | exact ⟨rfl, rfl, rfl⟩ | rfl
      refine wpT_actL (i := 5) rfl rfl ?_ -- Op.call { value (Operand.func 54), args := #[t31, const (11:i64)], a
      simp only [List.getElem_toArray, List.getElem_cons_zero, List.getElem_cons_succ]
      go_wp2_with (first
        | (go_at_call 112; refine (right11_calls x4 _ r4 s4).mono ?_; rintro e w1 ⟨rfl, rfl⟩)
        | fail)
      refine OnT.mk rfl ?_ ?_
      · exact hT
      clear hT
      intro w5_5 hT
      apply wpT_read (i := 6) rfl hT rfl -- Op.binOp BinOp.xor 73 t30 t32 73
      · intro w' hT'
        simp only [List.getElem_toArray, List.getElem_cons_zero, List.getElem_cons_succ]
        go_wp2_with fail
        first | exact ⟨rfl, rfl, rfl⟩ | rfl
      apply wpT_read (i := 7) rfl hT rfl -- Op.move t9
      · intro w' hT'
        simp only [List.getElem_toArray, List.getElem_cons_zero, List.getElem_cons_succ]
        go_wp2_with fail
        first | exact ⟨rfl, rfl, rfl⟩ | rfl
      refine wpT_actL (i := 8) rfl rfl ?_ -- Op.call { value (Operand.func 54), args := #[t34, const (25:i64)], a
      simp only [List.getElem_toArray, List.getElem_cons_zero, List.getElem_cons_succ]
      go_wp2_with (first
        | (go_at_call 112; refine (right25_calls x4 _ r4 s4).mono ?_; rintro e w1 ⟨rfl, rfl⟩)
        | fail)
      refine OnT.mk rfl ?_ ?_
      · exact hT
      clear hT
      intro w5_8 hT
      apply wpT_read (i := 9) rfl hT rfl -- Op.binOp BinOp.xor 73 t33 t35 73
      · intro w' hT'
        simp only [List.getElem_toArray, List.getElem_cons_zero, List.getElem_cons_succ]
        go_wp2_with fail
        first | exact ⟨rfl, rfl, rfl⟩ | rfl
      apply wpT_read (i := 10) rfl hT rfl -- Op.binOp BinOp.add 73 t28 t36 73
      · intro w' hT'
        simp only [List.getElem_toArray, List.getElem_cons_zero, List.getElem_cons_succ]
        go_wp2_with fail
        first | exact ⟨rfl, rfl, rfl⟩ | rfl
      apply wpT_read (i := 11) rfl hT rfl -- Op.move t9
      · intro w' hT'
        simp only [List.getElem_toArray, List.getElem_cons_zero, List.getElem_cons_succ]
        go_wp2_with fail
        first | exact ⟨rfl, rfl, rfl⟩ | rfl
      apply wpT_read (i := 12) rfl hT rfl -- Op.indexAddr 74 t6 (const (5:i64))
      · intro w' hT'
        simp only [List.getElem_toArray, List.getElem_cons_zero, List.getElem_cons_succ]
        go_wp2_with fail
        first | exact ⟨rfl, rfl, rfl⟩ | rfl
      apply wpT_read (i := 13) rfl hT rfl -- Op.load 73 t39
      · intro w' hT'
        simp only [List.getElem_toArray, List.getElem_cons_zero, List.getElem_cons_succ]
        have cx7 : w'.cell? ⟨g6, 7, none⟩ = some (.int .u32 x7) := hT'.cell 0 rfl 7
        have cx5 : w'.cell? ⟨g6, 5, none⟩ = some (.int .u32 x5) := hT'.cell 0 rfl 5
        have cx6 : w'.cell? ⟨g6, 6, none⟩ = some (.int .u32 x6) := hT'.cell 0 rfl 6
        have ck := CK.out hT'
        have cw := CW.out hT'
        go_wp2_with fail
        first | exact ⟨rfl, rfl, rfl⟩ | rfl
      apply wpT_read (i := 14) rfl hT rfl -- Op.binOp BinOp.and 73 t38 t40 73
      · intro w' hT'
        simp only [List.getElem_toArray, List.getElem_cons_zero, List.getElem_cons_succ]
        go_wp2_with fail
        first | exact ⟨rfl, rfl, rfl⟩ | rfl
      apply wpT_read (i := 15) rfl hT rfl -- Op.move t9
      · intro w' hT'
        simp only [List.getElem_toArray, List.getElem_cons_zero, List.getElem_cons_succ]
        go_wp2_with fail
        first | exact ⟨rfl, rfl, rfl⟩ | rfl
      apply wpT_read (i := 16) rfl hT rfl -- Op.unOp UnOp.xor 73 t42
      · intro w' hT'
        simp only [List.getElem_toArray, List.getElem_cons_zero, List.getElem_cons_succ]
        go_wp2_with fail
        first | exact ⟨rfl, rfl, rfl⟩ | rfl
      apply wpT_read (i := 17) rfl hT rfl -- Op.indexAddr 74 t6 (const (6:i64))
      · intro w' hT'
        simp only [List.getElem_toArray, List.getElem_cons_zero, List.getElem_cons_succ]
        go_wp2_with fail
        first | exact ⟨rfl, rfl, rfl⟩ | rfl
      apply wpT_read (i := 18) rfl hT rfl -- Op.load 73 t44
      · intro w' hT'
        simp only [List.getElem_toArray, List.getElem_cons_zero, List.getElem_cons_succ]
        have cx7 : w'.cell? ⟨g6, 7, none⟩ = some (.int .u32 x7) := hT'.cell 0 rfl 7
        have cx5 : w'.cell? ⟨g6, 5, none⟩ = some (.int .u32 x5) := hT'.cell 0 rfl 5
        have cx6 : w'.cell? ⟨g6, 6, none⟩ = some (.int .u32 x6) := hT'.cell 0 rfl 6
        have ck := CK.out hT'
        have cw := CW.out hT'
        go_wp2_with fail
        first | exact ⟨rfl, rfl, rfl⟩ | rfl
      apply wpT_read (i := 19) rfl hT rfl -- Op.binOp BinOp.and 73 t43 t45 73
      · intro w' hT'
        simp only [List.getElem_toArray, List.getElem_cons_zero, List.getElem_cons_succ]
        go_wp2_with fail
        first | exact ⟨rfl, rfl, rfl⟩ | rfl
      apply wpT_read (i := 20) rfl hT rfl -- Op.binOp BinOp.xor 73 t41 t46 73
      · intro w' hT'
        simp only [List.getElem_toArray, List.getElem_cons_zero, List.getElem_cons_succ]
        go_wp2_with fail
        first | exact ⟨rfl, rfl, rfl⟩ | rfl
      apply wpT_read (i := 21) rfl hT rfl -- Op.binOp BinOp.add 73 t37 t47 73
      · intro w' hT'
        simp only [List.getElem_toArray, List.getElem_cons_zero, List.getElem_cons_succ]
        go_wp2_with fail
        first | exact ⟨rfl, rfl, rfl⟩ | rfl
      apply wpT_read (i := 22) rfl hT rfl -- Op.move t7
      · intro w' hT'
        simp only [List.getElem_toArray, List.getElem_cons_zero, List.getElem_cons_succ]
        go_wp2_with fail
        first | exact ⟨rfl, rfl, rfl⟩ | rfl
      apply wpT_read (i := 23) rfl hT rfl -- Op.indexAddr 84 t5 t49
      · intro w' hT'
        simp only [List.getElem_toArray, List.getElem_cons_zero, List.getElem_cons_succ]
        go_wp2_with fail
        first | exact ⟨rfl, rfl, rfl⟩ | rfl
      apply wpT_read (i := 24) rfl hT rfl -- Op.load 73 t50
      · intro w' hT'
        simp only [List.getElem_toArray, List.getElem_cons_zero, List.getElem_cons_succ]
        have cx7 : w'.cell? ⟨g6, 7, none⟩ = some (.int .u32 x7) := hT'.cell 0 rfl 7
        have cx5 : w'.cell? ⟨g6, 5, none⟩ = some (.int .u32 x5) := hT'.cell 0 rfl 5
        have cx6 : w'.cell? ⟨g6, 6, none⟩ = some (.int .u32 x6) := hT'.cell 0 rfl 6
        have ck := CK.out hT'
        have cw := CW.out hT'
        go_wp2_with fail
        first | exact ⟨rfl, rfl, rfl⟩ | rfl
      apply wpT_read (i := 25) rfl hT rfl -- Op.binOp BinOp.add 73 t48 t51 73
      · intro w' hT'
        simp only [List.getElem_toArray, List.getElem_cons_zero, List.getElem_cons_succ]
        go_wp2_with fail
        first | exact ⟨rfl, rfl, rfl⟩ | rfl
      apply wpT_read (i := 26) rfl hT rfl -- Op.move t7
      · intro w' hT'
        simp only [List.getElem_toArray, List.getElem_cons_zero, List.getElem_cons_succ]
        go_wp2_with fail
        first | exact ⟨rfl, rfl, rfl⟩ | rfl
      apply wpT_read (i := 27) rfl hT rfl -- Op.indexAddr 84 t4 t53
      · intro w' hT'
        simp only [List.getElem_toArray, List.getElem_cons_zero, List.getElem_cons_succ]
        go_wp2_with fail
        first | exact ⟨rfl, rfl, rfl⟩ | rfl
      apply wpT_read (i := 28) rfl hT rfl -- Op.load 73 t54
      · intro w' hT'
        simp only [List.getElem_toArray, List.getElem_cons_zero, List.getElem_cons_succ]
        have cx7 : w'.cell? ⟨g6, 7, none⟩ = some (.int .u32 x7) := hT'.cell 0 rfl 7
        have cx5 : w'.cell? ⟨g6, 5, none⟩ = some (.int .u32 x5) := hT'.cell 0 rfl 5
        have cx6 : w'.cell? ⟨g6, 6, none⟩ = some (.int .u32 x6) := hT'.cell 0 rfl 6
        have ck := CK.out hT'
        have cw := CW.out hT'
        go_wp2_with fail
        first | exact ⟨rfl, rfl, rfl⟩ | rfl
      apply wpT_read (i := 29) rfl hT rfl -- Op.binOp BinOp.add 73 t52 t55 73
      · intro w' hT'
        simp only [List.getElem_toArray, List.getElem_cons_zero, List.getElem_cons_succ]
        go_wp2_with fail
        first | exact ⟨rfl, rfl, rfl⟩ | rfl
      apply wpT_read (i := 30) rfl hT rfl -- Op.assign t56
      · intro w' hT'
        simp only [List.getElem_toArray, List.getElem_cons_zero, List.getElem_cons_succ]
        go_wp2_with fail
        first | exact ⟨rfl, rfl, rfl⟩ | rfl
      refine wpT_end ?_
      try dsimp only

      replace hS := hT
      clear hT
      try go_wp2_with fail
      refine wp_region_L (T := fun w' => MS w w' gh g4 g5 g6 h ws ks [x0, x1, x2, x3, x4, x5, x6, x7] vr vn) (by kernel_rfl) (by kernel_rfl) hS.drew ?_
      intro wa hT
      show wpT _ _ _ _ [0, 1, 2, 3, 4, 5, 6, 7, 8, 9, 10, 11, 12, 13, 14, 15, 16, 17, 18, 19, 20, 21, 22, 23, 24] _ _
      apply wpT_read (i := 0) rfl hT rfl -- Op.move t8
      · intro w' hT'
        simp only [List.getElem_toArray, List.getElem_cons_zero, List.getElem_cons_succ]
        go_wp2_with fail
        first | exact ⟨rfl, rfl, rfl⟩ | rfl
      refine wpT_actL (i := 1) rfl rfl ?_ -- Op.call { value (Operand.func 54), args := #[t57, const (2:i64)], ar
      simp only [List.getElem_toArray, List.getElem_cons_zero, List.getElem_cons_succ]
      go_wp2_with (first
        | (go_at_call 112; refine (right2_calls x0 _ r0 s0).mono ?_; rintro e w1 ⟨rfl, rfl⟩)
        | fail)
      refine OnT.mk rfl ?_ ?_
      · exact hT
      clear hT
      intro w6_1 hT
      apply wpT_read (i := 2) rfl hT rfl -- Op.move t8
      · intro w' hT'
        simp only [List.getElem_toArray, List.getElem_cons_zero, List.getElem_cons_succ]
        go_wp2_with fail
        first | exact ⟨rfl, rfl, rfl⟩ | rfl
      refine wpT_actL (i := 3) rfl rfl ?_ -- Op.call { value (Operand.func 54), args := #[t59, const (13:i64)], a
      simp only [List.getElem_toArray, List.getElem_cons_zero, List.getElem_cons_succ]
      go_wp2_with (first
        | (go_at_call 112; refine (right13_calls x0 _ r0 s0).mono ?_; rintro e w1 ⟨rfl, rfl⟩)
        | fail)
      refine OnT.mk rfl ?_ ?_
      · exact hT
      clear hT
      intro w6_3 hT
      apply wpT_read (i := 4) rfl hT rfl -- Op.binOp BinOp.xor 73 t58 t60 73
      · intro w' hT'
        simp only [List.getElem_toArray, List.getElem_cons_zero, List.getElem_cons_succ]
        go_wp2_with fail
        first | exact ⟨rfl, rfl, rfl⟩ | rfl
      apply wpT_read (i := 5) rfl hT rfl -- Op.move t8
      · intro w' hT'
        simp only [List.getElem_toArray, List.getElem_cons_zero, List.getElem_cons_succ]
        go_wp2_with fail
        first | exact ⟨rfl, rfl, rfl⟩ | rfl
      refine wpT_actL (i := 6) rfl rfl ?_ -- Op.call { value (Operand.func 54), args := #[t62, const (22:i64)], a
      simp only [List.getElem_toArray, List.getElem_cons_zero, List.getElem_cons_succ]
      go_wp2_with (first
        | (go_at_call 112; refine (right22_calls x0 _ r0 s0).mono ?_; rintro e w1 ⟨rfl, rfl⟩)
        | fail)
      refine OnT.mk rfl ?_ ?_
      · exact hT
      clear hT
      intro wn hT
      apply wpT_read (i := 7) rfl hT rfl -- Op.binOp BinOp.xor 73 t61 t63 73
      · intro w' hT'
        simp only [List.getElem_toArray, List.getElem_cons_zero, List.getElem_cons_succ]
        go_wp2_with fail
        first | exact ⟨rfl, rfl, rfl⟩ | rfl
      apply wpT_read (i := 8) rfl hT rfl -- Op.move t8
      · intro w' hT'
        simp only [List.getElem_toArray, List.getElem_cons_zero, List.getElem_cons_succ]
        go_wp2_with fail
        first | exact ⟨rfl, rfl, rfl⟩ | rfl
      apply wpT_read (i := 9) rfl hT rfl -- Op.indexAddr 74 t6 (const (1:i64))
      · intro w' hT'
        simp only [List.getElem_toArray, List.getElem_cons_zero, List.getElem_cons_succ]
        go_wp2_with fail
        first | exact ⟨rfl, rfl, rfl⟩ | rfl
      apply wpT_read (i := 10) rfl hT rfl -- Op.load 73 t66
      · intro w' hT'
        simp only [List.getElem_toArray, List.getElem_cons_zero, List.getElem_cons_succ]
        have cx1 : w'.cell? ⟨g6, 1, none⟩ = some (.int .u32 x1) := hT'.cell 0 rfl 1
        have cx2 : w'.cell? ⟨g6, 2, none⟩ = some (.int .u32 x2) := hT'.cell 0 rfl 2
        go_wp2_with fail
        first | exact ⟨rfl, rfl, rfl⟩ | rfl
      apply wpT_read (i := 11) rfl hT rfl -- Op.binOp BinOp.and 73 t65 t67 73
      · intro w' hT'
        simp only [List.getElem_toArray, List.getElem_cons_zero, List.getElem_cons_succ]
        go_wp2_with fail
        first | exact ⟨rfl, rfl, rfl⟩ | rfl
      apply wpT_read (i := 12) rfl hT rfl -- Op.move t8
      · intro w' hT'
        simp only [List.getElem_toArray, List.getElem_cons_zero, List.getElem_cons_succ]
        go_wp2_with fail
        first | exact ⟨rfl, rfl, rfl⟩ | rfl
      apply wpT_read (i := 13) rfl hT rfl -- Op.indexAddr 74 t6 (const (2:i64))
      · intro w' hT'
        simp only [List.getElem_toArray, List.getElem_cons_zero, List.getElem_cons_succ]
        go_wp2_with fail
        first | exact ⟨rfl, rfl, rfl⟩ | rfl
      apply wpT_read (i := 14) rfl hT rfl -- Op.load 73 t70
      · intro w' hT'
        simp only [List.getElem_toArray, List.getElem_cons_zero, List.getElem_cons_succ]
        have cx1 : w'.cell? ⟨g6, 1, none⟩ = some (.int .u32 x1) := hT'.cell 0 rfl 1
        have cx2 : w'.cell? ⟨g6, 2, none⟩ = some (.int .u32 x2) := hT'.cell 0 rfl 2
        go_wp2_with fail
        first | exact ⟨rfl, rfl, rfl⟩ | rfl
      apply wpT_read (i := 15) rfl hT rfl -- Op.binOp BinOp.and 73 t69 t71 73
      · intro w' hT'
        simp only [List.getElem_toArray, List.getElem_cons_zero, List.getElem_cons_succ]
        go_wp2_with fail
        first | exact ⟨rfl, rfl, rfl⟩ | rfl
      apply wpT_read (i := 16) rfl hT rfl -- Op.binOp BinOp.xor 73 t68 t72 73
      · intro w' hT'
        simp only [List.getElem_toArray, List.getElem_cons_zero, List.getElem_cons_succ]
        go_wp2_with fail
        first | exact ⟨rfl, rfl, rfl⟩ | rfl
      apply wpT_read (i := 17) rfl hT rfl -- Op.indexAddr 74 t6 (const (1:i64))
      · intro w' hT'
        simp only [List.getElem_toArray, List.getElem_cons_zero, List.getElem_cons_succ]
        go_wp2_with fail
        first | exact ⟨rfl, rfl, rfl⟩ | rfl
      apply wpT_read (i := 18) rfl hT rfl -- Op.load 73 t74
      · intro w' hT'
        simp only [List.getElem_toArray, List.getElem_cons_zero, List.getElem_cons_succ]
        have cx1 : w'.cell? ⟨g6, 1, none⟩ = some (.int .u32 x1) := hT'.cell 0 rfl 1
        have cx2 : w'.cell? ⟨g6, 2, none⟩ = some (.int .u32 x2) := hT'.cell 0 rfl 2
        go_wp2_with fail
        first | exact ⟨rfl, rfl, rfl⟩ | rfl
      apply wpT_read (i := 19) rfl hT rfl -- Op.indexAddr 74 t6 (const (2:i64))
      · intro w' hT'
        simp only [List.getElem_toArray, List.getElem_cons_zero, List.getElem_cons_succ]
        go_wp2_with fail
        first | exact ⟨rfl, rfl, rfl⟩ | rfl
      apply wpT_read (i := 20) rfl hT rfl -- Op.load 73 t76
      · intro w' hT'
        simp only [List.getElem_toArray, List.getElem_cons_zero, List.getElem_cons_succ]
        have cx1 : w'.cell? ⟨g6, 1, none⟩ = some (.int .u32 x1) := hT'.cell 0 rfl 1
        have cx2 : w'.cell? ⟨g6, 2, none⟩ = some (.int .u32 x2) := hT'.cell 0 rfl 2
        go_wp2_with fail
        first | exact ⟨rfl, rfl, rfl⟩ | rfl
      apply wpT_read (i := 21) rfl hT rfl -- Op.binOp BinOp.and 73 t75 t77 73
      · intro w' hT'
        simp only [List.getElem_toArray, List.getElem_cons_zero, List.getElem_cons_succ]
        go_wp2_with fail
        first | exact ⟨rfl, rfl, rfl⟩ | rfl
      apply wpT_read (i := 22) rfl hT rfl -- Op.binOp BinOp.xor 73 t73 t78 73
      · intro w' hT'
        simp only [List.getElem_toArray, List.getElem_cons_zero, List.getElem_cons_succ]
        go_wp2_with fail
        first | exact ⟨rfl, rfl, rfl⟩ | rfl
      apply wpT_read (i := 23) rfl hT rfl -- Op.binOp BinOp.add 73 t64 t79 73
      · intro w' hT'
        simp only [List.getElem_toArray, List.getElem_cons_zero, List.getElem_cons_succ]
        go_wp2_with fail
        first | exact ⟨rfl, rfl, rfl⟩ | rfl
      apply wpT_read (i := 24) rfl hT rfl -- Op.assign t80
      · intro w' hT'
        simp only [List.getElem_toArray, List.getElem_cons_zero, List.getElem_cons_succ]
        go_wp2_with fail
        first | exact ⟨rfl, rfl, rfl⟩ | rfl
      refine wpT_end ?_
      try dsimp only

      have HST : Hd (stepS ws [x0, x1, x2, x3, x4, x5, x6, x7] i = [((x7 + Sig 6 11 25 x4 + bits .xor .u32 (bits .and .u32 x4 x5) (bits .and .u32 (bits .xor .u32 IntKind.u32.max x4) x6) + ki + wi) + (Sig 2 13 22 x0 + bits .xor .u32 (bits .xor .u32 (bits .and .u32 x0 x1) (bits .and .u32 x0 x2)) (bits .and .u32 x1 x2))) % 4294967296, x0, x1, x2, (x3 + (x7 + Sig 6 11 25 x4 + bits .xor .u32 (bits .and .u32 x4 x5) (bits .and .u32 (bits .xor .u32 IntKind.u32.max x4) x6) + ki + wi)) % 4294967296, x4, x5, x6]) := hid (by unfold stepS oneS twoS; rw [hks.out, hki.out, hwi.out]; rfl)
      replace hS := hT
      clear hT
      have cx0 : wn.cell? ⟨g6, 0, none⟩ = some (.int .u32 x0) := hS.cell 0 rfl 0
      have cx1 : wn.cell? ⟨g6, 1, none⟩ = some (.int .u32 x1) := hS.cell 0 rfl 1
      have cx2 : wn.cell? ⟨g6, 2, none⟩ = some (.int .u32 x2) := hS.cell 0 rfl 2
      have cx3 : wn.cell? ⟨g6, 3, none⟩ = some (.int .u32 x3) := hS.cell 0 rfl 3
      have cx4 : wn.cell? ⟨g6, 4, none⟩ = some (.int .u32 x4) := hS.cell 0 rfl 4
      have cx5 : wn.cell? ⟨g6, 5, none⟩ = some (.int .u32 x5) := hS.cell 0 rfl 5
      have cx6 : wn.cell? ⟨g6, 6, none⟩ = some (.int .u32 x6) := hS.cell 0 rfl 6
      have cx7 : wn.cell? ⟨g6, 7, none⟩ = some (.int .u32 x7) := hS.cell 0 rfl 7
      go_wp2_with (first
        | (refine hs_storeW hS 0 rfl rfl 94 _ _ rfl rfl (ints .u32 (stepS ws [x0, x1, x2, x3, x4, x5, x6, x7] i)) (by rw [HST.out]; rfl) (ints_one' _ _) _ infoW8 (by rfl) (by rfl) _ rfl ?_
           rw [← HX.out]; clear hS; intro wy hS)
        | fail)
      go_roundg (gk - 1)
      case measure => have := hq.out; omega
      case rel => exact ⟨i + 1, by omega, by go_num, hid (by have := hq.out; omega), hS⟩
    · obtain rfl : i = 64 := by omega
      have R := roundsS_W32 b h hh 64
      have HL8 := hid (roundsS_length b h HL.out 64)
      have HF : Hd (topS h (roundsS b h 64) 8 = shaBlock h b) := hid rfl
      generalize roundsS b h 64 = ss at *
      have hS0 : MS w wr gh g4 g5 g6 (topS h ss 0) ws ks ss vr vn := hS
      clear hS hlt hi hq
      go_wp2_with fail
      go_loopg [12, 102] 9 (fun kq v12 v102 wr => ∃ i : Nat, i ≤ 8 ∧ v102 = .int .i64 i ∧ Hd (kq + i = 9) ∧ MS w wr gh g4 g5 g6 (topS h ss i) ws ks ss vr vn)
      case atStart => exact ⟨0, by omega, rfl, hid (by omega), hS0⟩
      case round =>
        clear hS0
        obtain ⟨i, hi, rfl, hq, hS⟩ := hrel
        by_cases hlt : i < 8
        · have hlt2 : (i : Int) < 8 := by omega
          have HX := hid (topS_succ h ss i)
          have HTL : Hd ((topS h ss i).length = 8) := hid (by simp [HL.out])
          have e1 := topS_rd h ss i i (Nat.le_refl _)
          generalize topS h ss i = ts at *
          obtain ⟨x, hx⟩ : ∃ x, rd h i = x := ⟨_, rfl⟩
          obtain ⟨y, hy⟩ : ∃ y, rd ss i = y := ⟨_, rfl⟩
          obtain ⟨rx, sx⟩ : W32 x := hx ▸ rd_all hh zero_W32 _
          obtain ⟨ry, sy⟩ : W32 y := hy ▸ rd_all R zero_W32 _
          rw [hx] at e1
          rw [hx, hy] at HX
          have C1 : Hd (∀ {w'}, MS w w' gh g4 g5 g6 ts ws ks ss vr vn → w'.cell? ⟨gh, i, none⟩ = some (.int .u32 x)) := hid fun h => by rw [h.cell 3 rfl i, List.getElem?_append_left (by rw [ints_length, HTL.out]; exact hlt), ints_get _ _ _ (by rw [HTL.out]; exact hlt), e1]
          have C2 : Hd (∀ {w'}, MS w w' gh g4 g5 g6 ts ws ks ss vr vn → w'.cell? ⟨g6, i, none⟩ = some (.int .u32 y)) := hid fun h => by rw [h.cellI 0 rfl i (by rw [HL8.out]; exact hlt), hy]
          clear e1 hx hy
          try go_wp2_with fail
          refine wp_region_L (T := fun w' => MS w w' gh g4 g5 g6 ts ws ks ss vr vn) (by kernel_rfl) (by kernel_rfl) hS.drew ?_
          intro wa hT
          show wpT _ _ _ _ [0, 1, 2, 3, 4, 5, 6, 7, 8, 9, 10, 11, 12, 13] _ _
          apply wpT_read (i := 0) rfl hT rfl -- Op.move t0
          · intro w' hT'
            simp only [List.getElem_toArray, List.getElem_cons_zero, List.getElem_cons_succ]
            go_wp2_with fail
            first | exact ⟨rfl, rfl, rfl⟩ | rfl
          apply wpT_read (i := 1) rfl hT rfl -- Op.move t12
          · intro w' hT'
            simp only [List.getElem_toArray, List.getElem_cons_zero, List.getElem_cons_succ]
            go_wp2_with fail
            first | exact ⟨rfl, rfl, rfl⟩ | rfl
          apply wpT_read (i := 2) rfl hT rfl -- Op.nilCheck t105
          · intro w' hT'
            simp only [List.getElem_toArray, List.getElem_cons_zero, List.getElem_cons_succ]
            go_wp2_with fail
            first | exact ⟨rfl, rfl, rfl⟩ | rfl
          apply wpT_read (i := 3) rfl hT rfl -- Op.fieldAddr 94 t107 0
          · intro w' hT'
            simp only [List.getElem_toArray, List.getElem_cons_zero, List.getElem_cons_succ]
            go_wp2_with fail
            first | exact ⟨rfl, rfl, rfl⟩ | rfl
          apply wpT_read (i := 4) rfl hT rfl -- Op.indexAddr 74 t108 t106
          · intro w' hT'
            simp only [List.getElem_toArray, List.getElem_cons_zero, List.getElem_cons_succ]
            go_wp2_with fail
            first | exact ⟨rfl, rfl, rfl⟩ | rfl
          apply wpT_read (i := 5) rfl hT rfl -- Op.load 73 t109
          · intro w' hT'
            simp only [List.getElem_toArray, List.getElem_cons_zero, List.getElem_cons_succ]
            have c1 := C1.out hT'
            have c2 := C2.out hT'
            go_wp2_with fail
            first | exact ⟨rfl, rfl, rfl⟩ | rfl
          apply wpT_read (i := 6) rfl hT rfl -- Op.move t12
          · intro w' hT'
            simp only [List.getElem_toArray, List.getElem_cons_zero, List.getElem_cons_succ]
            go_wp2_with fail
            first | exact ⟨rfl, rfl, rfl⟩ | rfl
          apply wpT_read (i := 7) rfl hT rfl -- Op.indexAddr 74 t6 t111
          · intro w' hT'
            simp only [List.getElem_toArray, List.getElem_cons_zero, List.getElem_cons_succ]
            go_wp2_with fail
            first | exact ⟨rfl, rfl, rfl⟩ | rfl
          apply wpT_read (i := 8) rfl hT rfl -- Op.load 73 t112
          · intro w' hT'
            simp only [List.getElem_toArray, List.getElem_cons_zero, List.getElem_cons_succ]
            have c1 := C1.out hT'
            have c2 := C2.out hT'
            go_wp2_with fail
            first | exact ⟨rfl, rfl, rfl⟩ | rfl
          apply wpT_read (i := 9) rfl hT rfl -- Op.binOp BinOp.add 73 t110 t113 73
          · intro w' hT'
            simp only [List.getElem_toArray, List.getElem_cons_zero, List.getElem_cons_succ]
            go_wp2_with fail
            first | exact ⟨rfl, rfl, rfl⟩ | rfl
          apply wpT_read (i := 10) rfl hT rfl -- Op.nilCheck t105
          · intro w' hT'
            simp only [List.getElem_toArray, List.getElem_cons_zero, List.getElem_cons_succ]
            go_wp2_with fail
            first | exact ⟨rfl, rfl, rfl⟩ | rfl
          apply wpT_read (i := 11) rfl hT rfl -- Op.fieldAddr 94 t115 0
          · intro w' hT'
            simp only [List.getElem_toArray, List.getElem_cons_zero, List.getElem_cons_succ]
            go_wp2_with fail
            first | exact ⟨rfl, rfl, rfl⟩ | rfl
          apply wpT_read (i := 12) rfl hT rfl -- Op.indexAddr 74 t116 t106
          · intro w' hT'
            simp only [List.getElem_toArray, List.getElem_cons_zero, List.getElem_cons_succ]
            go_wp2_with fail
            first | exact ⟨rfl, rfl, rfl⟩ | rfl
          refine wpT_totL (i := 13) rfl rfl (by kernel_rfl) ?_ -- Op.store 73 t117 t114
          simp only [List.getElem_toArray, List.getElem_cons_zero, List.getElem_cons_succ]
          have fz := hT.frozen 3 rfl i
          have cc := C1.out hT
          go_wp2_with fail
          refine OnX.mk (fun w' => MS w w' gh g4 g5 g6 (topS h ss (i + 1)) ws ks ss vr vn) rfl ?_ ?_
          · have h9 := hT.setCell 3 rfl i (.int .u32 ((x + y) % 4294967296)); rw [List.set_append_left _ _ (by rw [ints_length, HTL.out]; exact hlt), ints_set] at h9; rw [HX.out]; exact h9
          clear hT
          clear fz cc
          intro w12_13 hT
          refine wpT_end ?_
          try dsimp only

          go_wp2_with fail
          go_roundg (gk - 1)
          case measure => have := hq.out; omega
          case rel => exact ⟨i + 1, by omega, by go_num, hid (by have := hq.out; omega), hT⟩
        · obtain rfl : i = 8 := by omega
          rw [HF.out] at hS
          go_wp2_with fail
          exact Go.Cour.bodyPost_void rfl rfl ⟨rfl, hS.upd, hS.blk 3 rfl⟩
end Go.Proofs.YtckcdngnkpfcfaaDoor
/- The program's digest on its way: New, Write. -/
namespace Go.Proofs.YtckcdngnkpfcfaaDoor
open Go.RowKit Go.Cour
def B8 (x : Int) : Prop := 0 ≤ x ∧ x < 256
theorem zero_B8 : B8 0 := ⟨by decide, by decide⟩
/-- So many blocks of a text, taken in. -/
def blocksS (h xs : List Int) (q : Nat) : List Int := (List.range q).foldl (fun h i => shaBlock h ((xs.drop (64 * i)).take 64)) h
theorem blocksS_succ (h xs : List Int) (q : Nat) : blocksS h xs (q + 1) = shaBlock (blocksS h xs q) ((xs.drop (64 * q)).take 64) := by simp [blocksS, List.range_succ]
theorem blocksS_length (h xs : List Int) (hl : h.length = 8) (q : Nat) : (blocksS h xs q).length = 8 := by
  induction q with
  | zero => simpa [blocksS] using hl
  | succ q ih => rw [blocksS_succ, shaBlock_length, ih]
theorem blocksS_W32 (h xs : List Int) (hh : ∀ x ∈ h, W32 x) (q : Nat) : ∀ x ∈ blocksS h xs q, W32 x := by
  induction q with
  | zero => simpa [blocksS] using hh
  | succ q ih => rw [blocksS_succ]; exact shaBlock_W32 _ _ ih
/-- The cells of a digest on its way. -/
def shaC (h : List Int) (vr : Value) (n : Int) : List Value := ints .u32 h ++ [vr, .int .u64 n]
section
variable {h : List Int} {vr v : Value} {n m : Int}
theorem shaC_get8 (hl : h.length = 8) : (shaC h vr n)[8]? = some vr := by unfold shaC; rw [List.getElem?_append_right (by simp [hl])]; simp [hl]
theorem shaC_get9 (hl : h.length = 8) : (shaC h vr n)[9]? = some (.int .u64 n) := by unfold shaC; rw [List.getElem?_append_right (by simp [hl])]; simp [hl]
theorem shaC_set8 (hl : h.length = 8) : (shaC h vr n).set 8 v = shaC h v n := by unfold shaC; rw [List.set_append_right _ _ (by simp [hl])]; simp [hl]
theorem shaC_set9 (hl : h.length = 8) : (shaC h vr n).set 9 (.int .u64 m) = shaC h vr m := by unfold shaC; rw [List.set_append_right _ _ (by simp [hl])]; simp [hl]
theorem shaC_length (hl : h.length = 8) : (shaC h vr n).length = 10 := by unfold shaC; simp [hl]
end
theorem undBytesS : Tryd.prog.underlying 24 = some (.slice 5) := by kernel_rfl
theorem infoU8S : (Tryd.prog.info? 5).map (fun i => (i.size, i.bytes)) = some (1, 1) := by kernel_rfl
theorem zeroU8S : (((Tryd.prog.info? 5).bind (·.zero)).map (·.cells.size)) = some 1 := by kernel_rfl
theorem sizeU8S : (Tryd.prog.info? 5).map (·.size) = some 1 := by kernel_rfl
theorem sizeBytesS : (Tryd.prog.info? 24).map (·.size) = some 1 := by kernel_rfl
theorem sizeU64S : (Tryd.prog.info? 93).map (·.size) = some 1 := by kernel_rfl
theorem undU64S : Tryd.prog.underlying 93 = some (.int .u64) := by kernel_rfl
/-- What is there of a digest on its way. -/
abbrev SE (gh : Nat) (vr : Value) (h rest : List Int) (n : Int) : List Ent := [.blk gh 154 (shaC h vr n), .os 5 vr (ints .u8 rest)]
/-- The blocks of one. -/
def SF (gh : Nat) (vr : Value) : Nat → Prop := fun k => k = gh ∨ vr.ownBlock = some k
theorem at_of_os {w : World} {e : TypeId} {g o n c : Nat} {xs : List Int} (h : OwnS w e (.slice (some ⟨g, o, none⟩) n c) (ints .u8 xs)) (hn : 64 ≤ xs.length) : At w g o (xs.take 64) 64 := fun i hi => by
  rw [rd_take _ _ _ hi]
  exact (h.rd rfl).cellAt i (by omega)
theorem ints_drop (k : IntKind) (xs : List Int) (n : Nat) : ints k (xs.drop n) = (ints k xs).drop n := by simp [ints, List.map_drop]
set_option maxHeartbeats 2000000 in
set_option maxRecDepth 100000 in
theorem write_calls (h rest bs : List Int) (nn : Int) (gh m c : Nat) (A : Option Addr) (vr : Value) (w : World) (hb : Blk w gh 154 (shaC h vr nn)) (ho : OwnS w 5 vr (ints .u8 rest)) (hne : vr.ownBlock ≠ some gh)
    (hl : h.length = 8) (hh : ∀ x ∈ h, W32 x) (hrest : ∀ x ∈ rest, B8 x) (hbs : ∀ x ∈ bs, B8 x) (hm : bs.length = m) (hmc : m ≤ c) (hrd : Rd w A .u8 bs) (hsep : ∀ a, A = some a → bs ≠ [] → ¬ SF gh vr a.block)
    (hsz : rest.length + m ≤ 1000000000) (hnn : 0 ≤ nn ∧ nn ≤ 1000000000) :
    Calls Tryd.prog 75 #[.pointer (some ⟨gh, 0, none⟩), .slice A m c] w fun e w' => e = .returned (.tuple #[]) ∧
      ∃ vr', HS (SF gh vr) w w' (SE gh vr' (blocksS h (rest ++ bs) ((rest ++ bs).length / 64)) ((rest ++ bs).drop (64 * ((rest ++ bs).length / 64))) (nn + m)) := by
  have HM := hid hm
  have HRD := hid hrd
  have HSEP := hid hsep
  have HL := hid hl
  have hS : HS (SF gh vr) w w (SE gh vr h rest nn) :=
    ((HS.start (SF gh vr) w).take (.os 5 vr (ints .u8 rest)) ho (fun k hk => .inl (.inr hk)) (fun f hf => by simp at hf)).take (.blk gh 154 (shaC h vr nn)) hb (fun k hk => .inl (.inl hk)) (fun f hf k hk hfk => by
      simp at hf; subst hf
      have h1 : k = gh := hk
      subst h1
      exact hne hfk)
  clear hm hrd hsep hl hb ho hne
  have g8 := shaC_get8 (vr := vr) (n := nn) HL.out
  have g9 := shaC_get9 (vr := vr) (n := nn) HL.out
  have c8 : w.cell? ⟨gh, 8, none⟩ = some vr := (hS.cell 0 rfl 8).trans g8
  have c9 : w.cell? ⟨gh, 9, none⟩ = some (.int .u64 nn) := (hS.cell 0 rfl 9).trans g9
  have h10 : Hd ((shaC h vr nn).length = 10) := hid (shaC_length HL.out)
  have h10' : Hd ((shaC h vr (nn + m)).length = 10) := hid (shaC_length HL.out)
  clear g8 g9
  obtain ⟨xs, hxs⟩ : ∃ xs, Hd (rest ++ bs = xs) := ⟨_, hid rfl⟩
  obtain ⟨q, hq⟩ : ∃ q, Hd (xs.length / 64 = q) := ⟨_, hid rfl⟩
  rw [hxs.out, hq.out]
  go_enter Tryd.func75, Tryd.ntmps75
  go_wp2_with (first
    | (refine hs_store1 hS 0 rfl rfl 24 _ _ rfl 8 rfl (.slice A2 n2 c2) rfl rfl sizeBytesS (by rw [h10'.out]; decide) _ rfl ?_; clear hS; intro w3 hS; rw [shaC_set8 HL.out] at hS; have mk1 : True := trivial)
    | (have _ := mk0; refine hs_append hS 1 rfl rfl _ _ 24 rfl 1 undBytesS infoU8S zeroU8S rfl A m c rfl (ints .u8 bs) (by rw [ints_length]; exact HM.out) (news_of_rd (hS.oldRd HRD.out HSEP.out)) (ints_one' _ _) (by rw [ints_length]; omega) (by rw [ints_length]; omega) _ rfl ?_
       clear hS; intro A2 n2 c2 w2 hn2 hc2 hA2 hS; rw [← ints_append] at hS hn2; rw [ints_length] at hn2; have HN2 := hid hn2; clear hn2)
    | (refine hs_store1 hS 0 rfl rfl 93 _ _ rfl 9 rfl (.int .u64 (nn + m)) rfl rfl sizeU64S (by rw [h10.out]; decide) _ rfl ?_
       clear hS c8 c9; intro w1 hS; rw [shaC_set9 HL.out] at hS
       have c8 : w1.cell? ⟨gh, 8, none⟩ = some vr := (hS.cell 0 rfl 8).trans (shaC_get8 HL.out)
       have mk0 : True := trivial)
    | fail)
  replace hS : HS (SF gh vr) w w3 (SE gh (.slice A2 n2 c2) h (rest ++ bs) (nn + m)) := hS
  have HB8 : Hd (∀ x ∈ rest ++ bs, B8 x) := hid fun x hx => (List.mem_append.1 hx).elim (hrest x) (hbs x)
  have HNN : Hd (n2 = rest.length + m) := hid (by rw [← HN2.out, List.length_append, HM.out])
  rw [hxs.out] at hS HB8 HN2
  clear hrest hbs h10 h10'
  dsimp only [Act.put]
  go_loopg [] (q + 1) (fun kq wr => ∃ (j : Nat) (A3 : Option Addr) (n3 c3 : Nat), Hd (n3 + 64 * j = n2) ∧ Hd (kq + j = q + 1) ∧ HS (SF gh vr) w wr (SE gh (.slice A3 n3 c3) (blocksS h xs j) (xs.drop (64 * j)) (nn + m)))
  case atStart => exact ⟨0, A2, n2, c2, hid (by omega), hid (by omega), by simpa [blocksS] using hS⟩
  case round =>
    clear hS
    obtain ⟨j, A3, n3, c3, hn3, hk, hS⟩ := hrel
    have hlen := hid (hS.os 1 rfl).len
    have hnc := hlen.out.2.1
    have HLb := hid (blocksS_length h xs HL.out j)
    have c8 : wr.cell? ⟨gh, 8, none⟩ = some (.slice A3 n3 c3) := (hS.cell 0 rfl 8).trans (shaC_get8 HLb.out)
    have h10 : Hd ((shaC (blocksS h xs (j + 1)) (.slice A3 n3 c3) (nn + m)).length = 10) := hid (shaC_length (blocksS_length h xs HL.out _))
    have HLd : Hd ((xs.drop (64 * j)).length = n3) := hid (by have := hn3.out; have := HN2.out; simp; omega)
    by_cases hge : 64 ≤ n3
    · have hge2 : (64 : Int) ≤ n3 := by omega
      obtain ⟨g, o, rfl⟩ := ((hS.os 1 rfl).rd rfl).at (by rw [HLd.out]; omega)
      have hne : g ≠ gh := fun he => hS.mem.apart (i := 0) (j := 1) rfl rfl (by decide) gh rfl (by subst he; rfl)
      have hat : Hd (At wr g o ((xs.drop (64 * j)).take 64) 64) := hid (at_of_os (hS.os 1 rfl) (by rw [HLd.out]; omega))
      have hr : Hd (∀ i, 0 ≤ rd ((xs.drop (64 * j)).take 64) i ∧ rd ((xs.drop (64 * j)).take 64) i < 256) := hid (rd_all (P := B8) (fun x hx => HB8.out x (List.mem_of_mem_drop (List.mem_of_mem_take hx))) zero_B8)
      have hsu := hid (blocksS_succ h xs j)
      have hw := blocksS_W32 h xs hh j
      go_wp2_with (first
        | (refine slice_cut rfl _ _ 24 rfl 5 undBytesS sizeU8S .i64 (some ⟨g, o, none⟩) n3 c3 64 rfl rfl hge ?_)
        | (refine hs_store1 hS 0 rfl rfl 24 _ _ rfl 8 rfl (.slice (cutA (some ⟨g, o, none⟩) c3 64) (n3 - 64) (c3 - 64)) rfl rfl sizeBytesS (by rw [h10.out]; decide) _ rfl ?_
           clear hS c8; intro w6 hS; rw [shaC_set8 (blocksS_length h xs HL.out _)] at hS)
        | (go_at_call 98; refine (mix_calls (blocksS h xs j) ((xs.drop (64 * j)).take 64) gh g o 64 c3 (.slice (some ⟨g, o, none⟩) n3 c3) (.int .u64 (nn + m)) _ (hS.blk 0 rfl) HLb.out hw hat.out hne hr.out (Nat.le_refl _)).mono ?_
           rintro e w5 ⟨rfl, hu, hb5⟩
           rw [← hsu.out] at hb5
           replace hS : HS (SF gh vr) w w5 (SE gh (.slice (some ⟨g, o, none⟩) n3 c3) (blocksS h xs (j + 1)) (xs.drop (64 * j)) (nn + m)) := hS.upd1 0 rfl hu (.blk gh 154 (shaC (blocksS h xs (j + 1)) (.slice (some ⟨g, o, none⟩) n3 c3) (nn + m))) hb5 (fun k hk => .inl hk)
           clear c8 hu hb5
           have c8 : w5.cell? ⟨gh, 8, none⟩ = some (.slice (some ⟨g, o, none⟩) n3 c3) := (hS.cell 0 rfl 8).trans (shaC_get8 (blocksS_length h xs HL.out _)))
        | fail)
      have hcut := (hS.os 1 rfl).cut 64 hge
      rw [← ints_drop, List.drop_drop] at hcut
      have hS2 := hS.upd1 1 rfl (Upd.refl _ _) (.os 5 (.slice (cutA (some ⟨g, o, none⟩) c3 64) (n3 - 64) (c3 - 64)) (ints .u8 (xs.drop (64 * j + 64)))) hcut (fun k hk => .inl (cutA_own k hk))
      go_roundg (gk - 1)
      case measure => have := hk.out; have := hn3.out; have := hq.out; have := HN2.out; omega
      case rel => exact ⟨j + 1, _, n3 - 64, c3 - 64, hid (by have := hn3.out; omega), hid (by have := hk.out; have := hn3.out; have := hq.out; have := HN2.out; omega), hS2⟩
    · have hlt2 : (n3 : Int) < 64 := by omega
      have hlt3 : n3 < 64 := by omega
      obtain rfl : j = q := by have := hk.out; have := hn3.out; have := hq.out; have := HN2.out; omega
      go_wp2_with fail
      exact bodyPost_void rfl rfl ⟨rfl, _, hS⟩
end Go.Proofs.YtckcdngnkpfcfaaDoor
