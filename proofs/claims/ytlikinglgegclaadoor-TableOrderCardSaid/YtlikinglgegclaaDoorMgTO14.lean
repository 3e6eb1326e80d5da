import Derived.Great.BuildSlice
import Derived.Great.FillDense
import Derived.Test.YtlikinglgegclaaDoorMgTO0
import Derived.Test.YtlikinglgegclaaDoorMgTO1
import Derived.Test.YtlikinglgegclaaDoorMgTO2
import Derived.Test.YtlikinglgegclaaDoorMgTO3
import Derived.Test.YtlikinglgegclaaDoorMgTO4
import Derived.Test.YtlikinglgegclaaDoorMgTO5
import Derived.Test.YtlikinglgegclaaDoorMgTO6
import Derived.Test.YtlikinglgegclaaDoorMgTO7
import Derived.Test.YtlikinglgegclaaDoorMgTO8
import Derived.Test.YtlikinglgegclaaDoorMgTO9
import Derived.Test.YtlikinglgegclaaDoorMgTO10
import Derived.Test.YtlikinglgegclaaDoorMgTO11
import Derived.Test.YtlikinglgegclaaDoorMgTO12
import Derived.Test.YtlikinglgegclaaDoorMgTO13
set_option linter.unusedSimpArgs false
set_option linter.unusedVariables false
open List (getElem_toArray getElem_cons_zero getElem_cons_succ)
/- Rows of several cells, one's own. -/
namespace Go.Cour
open Go.RowKit
/-- The slice value v, of rows of s cells each, is one's own. -/
def OwnA (w : World) (e : TypeId) (s : Nat) (v : Value) (rows : List (List Value)) : Prop := w.ownsRow 0 e s v rows.length rows.flatten ∧ ∀ r ∈ rows, r.length = s
theorem OwnA.nil (w : World) (e : TypeId) (s : Nat) : OwnA w e s (.slice none 0 0) [] := ⟨World.ownsRow_nil w 0 e s, fun _ h => by cases h⟩
theorem OwnA.below {w w' : World} {e : TypeId} {s : Nat} {v : Value} {rows : List (List Value)} (h : OwnA w e s v rows) (hb : Below w.heap.size w w') : OwnA w' e s v rows := by
  refine ⟨⟨h.1.1, ?_⟩, h.2⟩
  rcases h.1.2 with h2 | ⟨g, cap, cur, rfl, hg, hh, r⟩
  · exact .inl h2
  · exact .inr ⟨g, cap, cur, rfl, hg, (hb.block g (Array.getElem?_eq_some_iff.1 hh).1).trans hh, r⟩
theorem OwnA.kept {w w' : World} {e : TypeId} {s : Nat} {v : Value} {rows : List (List Value)} (h : OwnA w e s v rows) (hk : ∀ j, v.ownBlock = some j → w'.heap[j]? = w.heap[j]?) : OwnA w' e s v rows := by
  refine ⟨⟨h.1.1, ?_⟩, h.2⟩
  rcases h.1.2 with h2 | ⟨g, cap, cur, rfl, hg, hh, r⟩
  · exact .inl h2
  · exact .inr ⟨g, cap, cur, rfl, hg, (hk g rfl).trans hh, r⟩
theorem OwnA.lt_size {w : World} {e : TypeId} {s : Nat} {v : Value} {rows : List (List Value)} (h : OwnA w e s v rows) (j : Nat) (hj : v.ownBlock = some j) : j < w.heap.size := by
  rcases h.1.2 with ⟨rfl, _⟩ | ⟨g, cap, cur, rfl, hg, hh, r⟩
  · simp [Value.ownBlock] at hj
  · have : g = j := by simpa [Value.ownBlock] using hj
    subst this
    exact (Array.getElem?_eq_some_iff.1 hh).1
theorem flatten_get {s : Nat} : ∀ {rows : List (List Value)}, (∀ r ∈ rows, r.length = s) → ∀ (i j : Nat) (r : List Value), rows[i]? = some r → j < s → rows.flatten[i * s + j]? = r[j]?
  | [], _, i, j, r, h, _ => by simp at h
  | r0 :: rows, hl, 0, j, r, h, hj => by
    simp only [List.getElem?_cons_zero, Option.some.injEq] at h
    subst h
    have := hl r0 (by simp)
    rw [List.flatten_cons, Nat.zero_mul, Nat.zero_add, List.getElem?_append_left (by omega)]
  | r0 :: rows, hl, i + 1, j, r, h, hj => by
    have h0 := hl r0 (by simp)
    have ih := flatten_get (s := s) (rows := rows) (fun r hr => hl r (by simp [hr])) i j r (by simpa using h) hj
    rw [List.flatten_cons, Nat.succ_mul, List.getElem?_append_right (by omega), ← ih]
    congr 1; omega
/-- Where its rows lie. -/
theorem OwnA.parts {w : World} {e : TypeId} {s : Nat} {v : Value} {rows : List (List Value)} (h : OwnA w e s v rows) : ∃ A c, v = .slice A rows.length c ∧ rows.length ≤ c ∧
    ∀ i r, rows[i]? = some r → ∃ g, A = some ⟨g, 0, none⟩ ∧ ∀ j u, r[j]? = some u → w.cell? ⟨g, i * s + j, none⟩ = some u := by
  obtain ⟨⟨h1, h2⟩, h3⟩ := h
  rcases h2 with ⟨rfl, h2⟩ | ⟨g, cap, cur, rfl, hg, hh, hn, hm, hs, ht⟩
  · exact ⟨none, 0, by rw [h2], by omega, fun i r hr => by have := (List.getElem?_eq_some_iff.1 hr).1; omega⟩
  · refine ⟨_, cap, rfl, hn, fun i r hr => ⟨g, rfl, fun j u hu => ?_⟩⟩
    have hl := (List.getElem?_eq_some_iff.1 hr).1
    have hrs := h3 r (List.mem_of_getElem? hr)
    have hj : j < s := by have := (List.getElem?_eq_some_iff.1 hu).1; omega
    have hc : w.cell? ⟨g, i * s + j, none⟩ = cur[i * s + j]? := cell_of_row w g _ cur e (0, 0) hh
    have h4 := flatten_get h3 i j r hr hj
    rw [← ht, List.getElem?_take, if_pos (by
      have : (i + 1) * s ≤ rows.length * s := Nat.mul_le_mul_right _ hl
      rw [Nat.succ_mul] at this; omega)] at h4
    rw [hc, ← Array.getElem?_toList, h4, hu]
section
variable {P : Program} {w : World} {ops : Array Oper} {rest : List Oper} {o : Oper} {a : Act} {Q : Exit → Act → World → Prop}
/-- A slice literal of one value of s cells. -/
theorem literal_agg (hw : Region.wanted o (yielded ops a.tmps) = true) (t e : TypeId) (x : Operand) (ho : o.op = .buildSlice t 1 #[(0, x)]) (cs : List Value) (s : Nat) (hx : (a.eval x).cells = cs.toArray) (hl : cs.length = s)
    (ht : P.underlying t = some (.slice e)) (hsz : (P.info? e).map (·.size) = some s) (hz : ((P.info? e).bind (·.zero)).isSome = true) (hpos : 0 < s) (hsmall : s ≤ 2 ^ 24)
    (h : ∀ (g : Nat) (w' : World), w.heap.size = g → Blk w' g e cs → Below w.heap.size w w' → w'.heap.size = g + 1 → wpList P ops Q rest (a.put o.dst (.slice (some ⟨g, 0, none⟩) 1 1)) w') :
    wpList P ops Q (o :: rest) a w := by
  have h2 := h w.heap.size _ rfl (Blk.new w e cs) ((Below.refl _ _).alloc (Nat.le_refl _) _) (by simp)
  cases hie : P.info? e with
  | none => simp [hie] at hsz
  | some ie =>
    simp only [hie, Option.map_some, Option.some.injEq, Option.bind_some] at hsz hz
    obtain ⟨z, hzz⟩ := Option.isSome_iff_exists.1 hz
    refine wpList_step fun K hK => ?_
    rw [if_pos hw]
    refine wp_buildSlice t e 1 _ ho cs.toArray ie z ht hie hzz (by rw [hsz]; omega) (by rw [hsz]; omega) ?_ (hK _ _ h2)
    rw [hsz]
    obtain ⟨r, hr, hs2, hk⟩ := Great.fill_dense hpos [a.eval x] 0 ((Array.range (1 * s)).map (z.cells[· % z.cells.size]!)) (fun v hv => by rw [List.mem_singleton.1 hv, hx]; simpa using hl) (by simp)
    have he : (#[(0, x)].map fun (i, x) => (i, a.eval x)).toList = (([a.eval x] : List Value).zipIdx 0).map fun x => (x.2, x.1) := by simp
    rw [he, hr]
    congr 1
    apply Array.ext_getElem?
    intro k
    rw [hk k]
    by_cases hlt : k < s
    · rw [if_pos (by simp; omega)]
      have h1 : k / s = 0 := Nat.div_eq_of_lt hlt
      have h3 : k % s = k := Nat.mod_eq_of_lt hlt
      simp [h1, h3, hx]
    · rw [if_neg (by simp; omega)]
      simp [List.getElem?_eq_none (show cs.length ≤ k by omega)]
      omega
/-- One row more. -/
theorem app_agg (hw : Region.wanted o (yielded ops a.tmps) = true) (s x : Operand) (t : TypeId)
    (ho : o.op = .call { callee := .builtin .append, args := #[s, x], argTypes := #[t, t] })
    (e : TypeId) (n bytes : Nat) (ht : P.underlying t = some (.slice e)) (hi : (P.info? e).map (fun i => (i.zero.map (·.cells.size), i.size, i.bytes)) = some (some n, n, bytes)) (hn : 0 < n)
    (v : Value) (rows : List (List Value)) (hs : a.eval s = v) (hown : OwnA w e n v rows)
    (g : Nat) (r : List Value) (hx : a.eval x = .slice (some ⟨g, 0, none⟩) 1 1) (hg : Blk w g e r) (hl : r.length = n) (h1 : ∀ u ∈ r, u.oneCell' = true)
    (hbytes : (rows.length + 1) * bytes ≤ 140737488355328) (h63 : rows.length + 1 ≤ 140737488355328)
    (h : ∀ v' w', OwnA w' e n v' (rows ++ [r]) → w.grownBy w' v.ownBlock → Lies v v' w → wpList P ops Q rest (a.put o.dst v') w') :
    wpList P ops Q (o :: rest) a w := by
  cases hie : P.info? e with
  | none => simp [hie] at hi
  | some i =>
    cases hz : i.zero with
    | none => simp [hie, hz] at hi
    | some z =>
      simp [hie, hz] at hi
      refine app_row hw s x t ho e i z n bytes ht hie hz hi.2.1 hi.2.2 hi.1 hn v rows.length rows.flatten hs hown.1 ⟨g, 0, none⟩ 1 1 r hx (by omega) ?_ h1 (by unfold maxLen; omega) hbytes ?_
      · intro j u' hj
        rw [add_lit, Nat.zero_add, hg.cell]
        exact hj
      · intro v' w' h2 h3 h4
        refine h v' w' ⟨?_, fun q hq => ?_⟩ h3 h4
        · rw [List.length_append, List.flatten_append]
          simpa using h2
        · rcases List.mem_append.1 hq with hq | hq
          · exact hown.2 q hq
          · rw [List.mem_singleton.1 hq]; exact hl
end
end Go.Cour
/- Rows of several cells beside other things: appended to, cut. -/
namespace Go.Cour
open Go.RowKit
def Ent.oa (e : TypeId) (s : Nat) (v : Value) (rows : List (List Value)) : Ent where
  F := fun j => v.ownBlock = some j
  p := fun w => OwnA w e s v rows
  lt := fun h j hj => h.lt_size j hj
  kept := fun h hk => h.kept hk
section
variable {P : Program} {ops : Array Oper} {rest : List Oper} {o : Oper} {a : Act} {w w0 : World} {Q : Exit → Act → World → Prop} {F : Nat → Prop} {L : List Ent}
theorem HS.oa (h : HS F w0 w L) (i : Nat) {e : TypeId} {s : Nat} {v : Value} {rows : List (List Value)} (hi : L[i]? = some (.oa e s v rows)) : OwnA w e s v rows := h.mem.get hi
/-- One row more. -/
theorem hs_appA (hS : HS F w0 w L) (i : Nat) {e : TypeId} {n : Nat} {v : Value} {rows : List (List Value)} (hi : L[i]? = some (.oa e n v rows)) (hw : Region.wanted o (yielded ops a.tmps) = true) (s x : Operand) (t : TypeId)
    (ho : o.op = .call { callee := .builtin .append, args := #[s, x], argTypes := #[t, t] }) (bytes : Nat) (ht : P.underlying t = some (.slice e)) (hf : (P.info? e).map (fun i => (i.zero.map (·.cells.size), i.size, i.bytes)) = some (some n, n, bytes)) (hn : 0 < n)
    (hs : a.eval s = v) (g : Nat) (r : List Value) (hx : a.eval x = .slice (some ⟨g, 0, none⟩) 1 1) (hg : Blk w g e r) (hl : r.length = n) (h1 : ∀ u ∈ r, u.oneCell' = true)
    (hbytes : (rows.length + 1) * bytes ≤ 140737488355328) (h63 : rows.length + 1 ≤ 140737488355328) (d : Option Tmp) (hd : o.dst = d)
    (h : ∀ A' n' c' w', rows.length + 1 = n' → n' ≤ c' → HS F w0 w' (L.set i (.oa e n (.slice A' n' c') (rows ++ [r]))) → wpList P ops Q rest (a.put d (.slice A' n' c')) w') : wpList P ops Q (o :: rest) a w := by
  subst hd
  refine app_agg hw s x t ho e n bytes ht hf hn v rows hs (hS.oa i hi) g r hx hg hl h1 hbytes h63 ?_
  intro v' w' ho' hg' hl'
  have hu : Upd (fun j => v.ownBlock = some j) w w' := Upd.of_grown hg'
  obtain ⟨A', c', rfl, hc, _⟩ := ho'.parts
  refine h A' _ c' w' (by simp) hc ?_
  refine hS.upd1 i hi hu _ ho' (fun k hk => ?_)
  have hk' : (Value.slice A' (rows ++ [r]).length c').ownBlock = some k := hk
  rcases hl' with h2 | h2
  · exact .inl (by rw [h2] at hk'; exact hk')
  · rw [h2] at hk'
    injection hk' with hk'
    exact .inr (Nat.le_of_eq hk')
/-- s[:h]. -/
theorem slice_hiS (hw : Region.wanted o (yielded ops a.tmps) = true) (x z : Operand) (t : TypeId) (ho : o.op = .slice t x none (some z) none) (e : TypeId)
    (hu : P.underlying t = some (.slice e)) (s : Nat) (hsz : (P.info? e).map (·.size) = some s) (g off m c h : Nat) (hx : a.eval x = .slice (some ⟨g, off, none⟩) m c) (hz : a.eval z = .int .i64 (h : Int)) (hhc : h ≤ c) (hpc : 0 < c) (d : Option Tmp) (hd : o.dst = d)
    (hk : wpList P ops Q rest (a.put d (.slice (some ⟨g, off, none⟩) h c)) w) : wpList P ops Q (o :: rest) a w := by
  subst hd
  obtain ⟨i, hi, hs⟩ : ∃ i, P.info? e = some i ∧ i.size = s := by
    cases hie : P.info? e with
    | none => simp [hie] at hsz
    | some i => exact ⟨i, rfl, by simpa [hie] using hsz⟩
  refine wpList_step fun K hK => ?_
  rw [if_pos hw]
  have hs2 : (sizeOf e).run P w = .ok s w := by simp [sizeOf, typeInfo, hi, hs]
  have hne : ¬ c = 0 := by omega
  have hrun : (Instr.slice t (.slice (some ⟨g, off, none⟩) m c) none (some (.int .i64 (h : Int))) none).run P w = .ok (.slice (some ⟨g, off, none⟩) h c) w := by
    simp [Instr.slice, run_underlying hu, Instr.sliceBounds, run_sliceBound, hs2, hhc, hne, add_lit]
  have hrun2 : (Instr.sliceAt t (.slice (some ⟨g, off, none⟩) m c) none (some (.int .i64 (h : Int))) none).run P w = .ok (.slice (some ⟨g, off, none⟩) h c) w := by
    rw [← hrun]; simp [Instr.sliceAt, run_underlying hu]
  unfold Oper.wp execOp
  simp only [ho, hx, hz, Option.map_some, Option.map_none]
  simp [hrun2]
  exact hK _ _ hk
/-- s[p:]. -/
theorem slice_loS (hw : Region.wanted o (yielded ops a.tmps) = true) (x y : Operand) (t : TypeId) (ho : o.op = .slice t x (some y) none none) (e : TypeId)
    (hu : P.underlying t = some (.slice e)) (s : Nat) (hsz : (P.info? e).map (·.size) = some s) (g off m c p n : Nat) (hx : a.eval x = .slice (some ⟨g, off, none⟩) m c) (hy : a.eval y = .int .i64 (p : Int)) (hpm : p ≤ m) (hpc : p < c) (hn : m - p = n) (d : Option Tmp) (hd : o.dst = d)
    (hk : wpList P ops Q rest (a.put d (.slice (some ⟨g, off + p * s, none⟩) n (c - p))) w) : wpList P ops Q (o :: rest) a w := by
  subst hd hn
  obtain ⟨i, hi, hs⟩ : ∃ i, P.info? e = some i ∧ i.size = s := by
    cases hie : P.info? e with
    | none => simp [hie] at hsz
    | some i => exact ⟨i, rfl, by simpa [hie] using hsz⟩
  refine wpList_step fun K hK => ?_
  rw [if_pos hw]
  have hs2 : (sizeOf e).run P w = .ok s w := by simp [sizeOf, typeInfo, hi, hs]
  have hne : ¬ c = p := by omega
  have hrun : (Instr.slice t (.slice (some ⟨g, off, none⟩) m c) (some (.int .i64 (p : Int))) none none).run P w = .ok (.slice (some ⟨g, off + p * s, none⟩) (m - p) (c - p)) w := by
    simp [Instr.slice, run_underlying hu, Instr.sliceBounds, run_sliceBound, hs2, hpm, hne, add_lit]
  have hrun2 : (Instr.sliceAt t (.slice (some ⟨g, off, none⟩) m c) (some (.int .i64 (p : Int))) none none).run P w = .ok (.slice (some ⟨g, off + p * s, none⟩) (m - p) (c - p)) w := by
    rw [← hrun]; simp [Instr.sliceAt, run_underlying hu]
  unfold Oper.wp execOp
  simp only [ho, hx, hy, Option.map_some, Option.map_none]
  simp [hrun2]
  exact hK _ _ hk
end
end Go.Cour
/- table: own, Next, Add; the chapter's examples. -/
namespace Go.Proofs.YtlikinglgegclaaDoor
open Go.RowKit Go.Cour
set_option maxHeartbeats 1000000 in
set_option maxRecDepth 100000 in
theorem own_calls (R : List Value) (xs : List Int) (A : Option Addr) (n c : Nat) (w : World) (hl : R.length = 108) (h1 : ∀ v ∈ R, v.oneCell' = true) (h102 : R[102]? = some (.slice A n c)) (hn : n = xs.length) (hA : A = none → c = 0) (hr : Rd w A .u8 xs) (hx : xs.length ≤ 1000000) :
    Calls Tryd.prog 58 #[.agg R.toArray] w fun e w' => ∃ v, e = .returned (.agg (R.set 102 v).toArray) ∧ v.oneCell' = true ∧ HS NoF w w' [.os 5 v (ints .u8 xs)] := by
  have HL := hid hl
  have H1 := hid h1
  have H102 := hid h102
  have HN := hid hn
  have HA := hid hA
  have HR := hid hr
  have HX := hid hx
  have hS := HS.start NoF w
  have HZL : Hd (rowZ.length = 108) := hid rowZ_length
  have HZ := hid zeroRow
  clear hl h1 h102 hn hA hr hx
  have HS1 : Hd (∀ u : Value, u.oneCell' = true → ∀ v ∈ R.set 102 u, v.oneCell' = true) := hid (fun u hu v hv => by
    rcases List.mem_or_eq_of_mem_set hv with h | rfl
    · exact H1.out v h
    · exact hu)
  have HSL : Hd (∀ u : Value, (R.set 102 u).length = 108) := hid (fun u => by rw [List.length_set]; exact HL.out)
  generalize rowZ = RZ at *
  go_enter Tryd.func58, Tryd.ntmps58
  go_wp2_with (first
    | (refine box_blk rfl 74 _ rfl _ rfl R rfl ?_; intro g1 w1 hga hba hBa hsa; replace hS : HS NoF w w1 [.blk g1 74 R] := hS.pushBlk hBa hba hga; clear hga hba hBa hsa)
    | (refine alloc_blk rfl 74 rfl _ rfl RZ HZ.out ?_; intro g2 w2 hga hba hBa hsa; replace hS : HS NoF w w2 [.blk g2 74 RZ, .blk g1 74 R] := hS.pushBlk hBa hba hga; clear hga hba hBa hsa; have c102 : w2.cell? ⟨g1, 102, none⟩ = _ := (hS.cell 1 rfl 102).trans H102.out)
    | (go_at_call 72; refine (clone_calls A n c xs _ HN.out HA.out (hS.oldRd HR.out (fun _ _ _ h => h)) (by have := HX.out; omega)).mono ?_; rintro e w3 ⟨v, rfl, ho, hB3⟩; obtain ⟨Av, cv, rfl, hcv, _, _⟩ := ho.slice; replace hS : HS NoF w w3 [.os 5 (.slice Av xs.length cv) (ints .u8 xs), .blk g2 74 RZ, .blk g1 74 R] := hS.pushOwn hB3 ho; clear ho hB3 hcv c102)
    | (refine hs_store1 hS 2 rfl rfl 24 _ _ rfl 102 rfl (.slice Av xs.length cv) rfl rfl sizeBytesM (by rw [HL.out]; decide) _ rfl ?_; clear hS; intro w4 hS; replace hS : HS NoF w w4 [.os 5 (.slice Av xs.length cv) (ints .u8 xs), .blk g2 74 RZ, .blk g1 74 (R.set 102 (.slice Av xs.length cv))] := hS)
    | (refine hs_loadW hS 2 rfl rfl 74 _ rfl rfl 108 sizeRow (HSL.out _) _ undRow.choose_spec rfl _ rfl ?_)
    | (refine hs_storeW hS 1 rfl rfl 74 _ _ rfl rfl (R.set 102 (.slice Av xs.length cv)) rfl (HS1.out _ rfl) 108 sizeRow (HSL.out _) HZL.out _ rfl ?_; clear hS; intro w9 hS; replace hS : HS NoF w w9 [.os 5 (.slice Av xs.length cv) (ints .u8 xs), .blk g2 74 (R.set 102 (.slice Av xs.length cv)), .blk g1 74 (R.set 102 (.slice Av xs.length cv))] := hS)
    | fail)
  refine bodyPost_ret (results_strR rfl _ _ g2 _ (R.set 102 (.slice Av xs.length cv)) _ rfl (hS.blk 1 rfl) Tryd.underlying74 (by rw [HSL.out]; exact sizeRow)) rfl ⟨.slice Av xs.length cv, rfl, rfl, (hS.erase 2).erase 1⟩
set_option maxRecDepth 100000 in
theorem next_calls (last : Int) (gt : Nat) (w : World) (c1 : w.cell? ⟨gt, 1, none⟩ = some (.int .i64 last)) (hl : 0 ≤ last ∧ last ≤ 2147483647) :
    Calls Tryd.prog 30 #[.pointer (some ⟨gt, 0, none⟩)] w fun e w' => e = .returned (.int .i64 (last + 1)) ∧ w' = w := by
  go_enter Tryd.func30, Tryd.ntmps30
  go_wp2_with fail
  go_ret
  exact ⟨by go_num, rfl⟩
theorem p3 {α : Type} (a b c : α) : [a, b, c].Perm [c, a, b] := List.perm_middle (l₁ := [a, b]) (l₂ := [])
theorem p3b {α : Type} (a b c : α) : [a, b, c].Perm [c, b, a] := (List.reverse_perm [a, b, c]).symm
/-- What Add changes. -/
def TF (gt : Nat) (v : Value) (k : Nat) : Prop := k = gt ∨ v.ownBlock = some k
theorem undRows : Tryd.prog.underlying 64 = some (.slice 74) := by kernel_rfl
theorem infoRow : (Tryd.prog.info? 74).map (fun i => (i.zero.map (·.cells.size), i.size, i.bytes)) = some (some 108, 108, 200) := by kernel_rfl
theorem zeroRowS : ((Tryd.prog.info? 74).bind (·.zero)).isSome = true := by kernel_rfl
theorem sizeRowsM : (Tryd.prog.info? 64).map (·.size) = some 1 := by kernel_rfl
/-- A table's two cells. -/
def tabC (v : Value) (last : Int) : List Value := [v, .int .i64 last]
theorem tab_take {w : World} {gt : Nat} {A : Option Addr} {n c : Nat} {last : Int} {rows : List (List Value)} (hb : Blk w gt 66 (tabC (.slice A n c) last)) (ho : OwnA w 74 108 (.slice A n c) rows) (hsep : (Value.slice A n c).ownBlock ≠ some gt) :
    HS (TF gt (.slice A n c)) w w [.blk gt 66 (tabC (.slice A n c) last), .oa 74 108 (.slice A n c) rows] :=
  ((HS.start (TF gt (.slice A n c)) w).take (.oa 74 108 (.slice A n c) rows) ho (fun k hk => .inl (.inr hk)) (fun f hf => by cases hf)).take (.blk gt 66 (tabC (.slice A n c) last)) hb (fun k hk => .inl (.inl hk)) (fun f hf k hk hfk => by
    obtain rfl := List.mem_singleton.1 hf
    have hk : k = gt := hk
    subst hk
    exact hsep hfk)
set_option maxHeartbeats 2000000 in
set_option maxRecDepth 100000 in
theorem add_calls (R : List Value) (rows : List (List Value)) (xs : List Int) (id last : Int) (gt : Nat) (A B : Option Addr) (n c nb cb : Nat) (w : World) (hb : Blk w gt 66 (tabC (.slice A n c) last)) (ho : OwnA w 74 108 (.slice A n c) rows) (hsep : (Value.slice A n c).ownBlock ≠ some gt)
    (hn : n < 8) (hrn : rows.length = n) (hid1 : 0 ≤ last ∧ last < id ∧ id ≤ 2147483647) (hl : R.length = 108) (h1 : ∀ v ∈ R, v.oneCell' = true) (h0 : R[0]? = some (.int .i64 id)) (h102 : R[102]? = some (.slice B nb cb)) (hnb : nb = xs.length) (hB : B = none → cb = 0) (hr : Rd w B .u8 xs) (hrs : ∀ a, B = some a → xs ≠ [] → ¬ TF gt (.slice A n c) a.block) (hx : xs.length ≤ 1000000) :
    Calls Tryd.prog 29 #[.pointer (some ⟨gt, 0, none⟩), .agg R.toArray] w fun e w' => e = .returned .nilIface ∧ ∃ (A' : Option Addr) (c' : Nat) (v : Value), v.oneCell' = true ∧ HS (TF gt (.slice A n c)) w w' [.blk gt 66 (tabC (.slice A' (n + 1) c') id), .oa 74 108 (.slice A' (n + 1) c') (rows ++ [R.set 102 v]), .os 5 v (ints .u8 xs)] := by
  have HL := Go.Cour.hid hl
  have H1 := Go.Cour.hid h1
  have H0 := Go.Cour.hid h0
  have H102 := Go.Cour.hid h102
  have HNB := Go.Cour.hid hnb
  have HBB := Go.Cour.hid hB
  have HR := Go.Cour.hid hr
  have HRS := Go.Cour.hid hrs
  have HX := Go.Cour.hid hx
  have HRN := Go.Cour.hid hrn
  have hS := tab_take hb ho hsep
  have c0 : w.cell? ⟨gt, 0, none⟩ = some (.slice A n c) := hb.cell 0
  clear hb ho hsep hl h1 h0 h102 hnb hB hr hrs hx hrn
  obtain ⟨F, hF⟩ : ∃ F, Hd (TF gt (.slice A n c) = F) := ⟨_, Go.Cour.hid rfl⟩
  rw [hF.out] at hS HRS ⊢
  have hn8 : ¬ (8 : Int) ≤ n := by omega
  have hlt1 : ¬ id < last + 1 := by omega
  have hlt2 : ¬ (2147483647 : Int) < id := by omega
  go_enter Tryd.func29, Tryd.ntmps29
  go_wp2_with (first
    | (refine box_blk rfl 74 _ rfl _ rfl R rfl ?_; intro g1 w1 hga hba hBa hsa; replace hS : HS F w w1 [.blk g1 74 R, .blk gt 66 (tabC (.slice A n c) last), .oa 74 108 (.slice A n c) rows] := hS.pushBlk hBa hba hga; replace c0 := (hBa.cell (lt_of_cell c0)).trans c0; clear hga hba hBa hsa)
    | fail)
  clear c0
  try go_wp2_with fail
  refine wp_region_S (F := F) (w0 := w) (L0 := [.blk g1 74 R, .blk gt 66 (tabC (.slice A n c) last), .oa 74 108 (.slice A n c) rows]) [3] []
    (fun iK u E => match iK with
      | 3 => u = .int .i64 (last + 1) ∧ E = []
      | _ => False)
    ([]) (by kernel_rfl) (by kernel_rfl) hS ?_
  show wpS _ _ _ _ _ _ _ _ _ _ [0, 1, 2, 3, 4, 5, 6, 7, 8, 9, 10] _
  apply wpS_read (i := 0) rfl rfl ⟨_, hS⟩ rfl
  · intro w' hT'
    simp only [getElem_toArray, getElem_cons_zero, getElem_cons_succ]
    go_wp2_with fail
    first | exact ⟨rfl, rfl, rfl⟩ | rfl
  apply wpS_read (i := 1) rfl rfl ⟨_, hS⟩ rfl
  · intro w' hT'
    simp only [getElem_toArray, getElem_cons_zero, getElem_cons_succ]
    have cr := (hT'.cell 0 rfl 0).trans H0.out
    go_wp2_with fail
    first | exact ⟨rfl, rfl, rfl⟩ | rfl
  apply wpS_read (i := 2) rfl rfl ⟨_, hS⟩ rfl
  · intro w' hT'
    simp only [getElem_toArray, getElem_cons_zero, getElem_cons_succ]
    go_wp2_with fail
    first | exact ⟨rfl, rfl, rfl⟩ | rfl
  refine wpS_soft (i := 3) rfl rfl rfl (Nat.le_of_ble_eq_true rfl) ?_ ?_
  · intro w' hT
    simp only [getElem_toArray, getElem_cons_zero, getElem_cons_succ]
    go_wp2_with (first
      | (go_at_call 30; refine (next_calls last gt _ (hT.cell 1 rfl 1) (by omega)).mono ?_; rintro e w6 ⟨rfl, rfl⟩)
      | fail)
    exact SoftP.mk' (.int .i64 (last + 1)) ([]) rfl (⟨rfl, rfl⟩) (hT) (Below.refl _ _) (fun _ h => by cases h)
  intro u3 E3 hK3
  obtain ⟨rfl, rfl⟩ := hK3
  simp only [Act.put, List.setIfInBounds_toArray, List.set_cons_zero, List.set_cons_succ]
  apply wpS_read (i := 4) rfl rfl ⟨_, hS⟩ rfl
  · intro w' hT'
    simp only [getElem_toArray, getElem_cons_zero, getElem_cons_succ]
    go_wp2_with fail
    first | exact ⟨rfl, rfl, rfl⟩ | rfl
  apply wpS_read (i := 5) rfl rfl ⟨_, hS⟩ rfl
  · intro w' hT'
    simp only [getElem_toArray, getElem_cons_zero, getElem_cons_succ]
    go_wp2_with fail
    first | exact ⟨rfl, rfl, rfl⟩ | rfl
  apply wpS_read (i := 6) rfl rfl ⟨_, hS⟩ rfl
  · intro w' hT'
    simp only [getElem_toArray, getElem_cons_zero, getElem_cons_succ]
    go_wp2_with fail
    first | exact ⟨rfl, rfl, rfl⟩ | rfl
  apply wpS_read (i := 7) rfl rfl ⟨_, hS⟩ rfl
  · intro w' hT'
    simp only [getElem_toArray, getElem_cons_zero, getElem_cons_succ]
    have cr := (hT'.cell 0 rfl 0).trans H0.out
    go_wp2_with fail
    first | exact ⟨rfl, rfl, rfl⟩ | rfl
  apply wpS_read (i := 8) rfl rfl ⟨_, hS⟩ rfl
  · intro w' hT'
    simp only [getElem_toArray, getElem_cons_zero, getElem_cons_succ]
    go_wp2_with fail
    first | exact ⟨rfl, rfl, rfl⟩ | rfl
  apply wpS_read (i := 9) rfl rfl ⟨_, hS⟩ rfl
  · intro w' hT'
    simp only [getElem_toArray, getElem_cons_zero, getElem_cons_succ]
    go_wp2_with fail
    first | exact ⟨rfl, rfl, rfl⟩ | rfl
  apply wpS_read (i := 10) rfl rfl ⟨_, hS⟩ rfl
  · intro w' hT'
    simp only [getElem_toArray, getElem_cons_zero, getElem_cons_succ]
    go_wp2_with fail
    first | exact ⟨rfl, rfl, rfl⟩ | rfl
  refine wpS_end ?_
  intro wz hT
  try dsimp only
  clear hS
  have hS : HS F w wz [.oa 74 108 (.slice A n c) rows, .blk g1 74 R, .blk gt 66 (tabC (.slice A n c) last)] := hT.perm (p3 _ _ _)
  clear hT
  try go_wp2_with fail
  refine wp_region_S (F := F) (w0 := w) (L0 := [.blk g1 74 R, .blk gt 66 (tabC (.slice A n c) last)]) [6] [7, 8, 11]
    (fun iK u E => match iK with
      | 6 => ∃ v : Value, u = .agg (R.set 102 v).toArray ∧ v.oneCell' = true ∧ E = [.os 5 v (ints .u8 xs)]
      | _ => False)
    ([.oa 74 108 (.slice A n c) rows]) (by kernel_rfl) (by kernel_rfl) hS ?_
  show wpS _ _ _ _ _ _ _ _ _ _ [0, 1, 2, 3, 4, 5, 6, 7, 8, 9, 10, 11] _
  apply wpS_read (i := 0) rfl rfl ⟨_, (HS.drop2 (E := [.oa 74 108 (.slice A n c) rows]) (L := [.blk g1 74 R, .blk gt 66 (tabC (.slice A n c) last)]) hS)⟩ rfl
  · intro w' hT'
    simp only [getElem_toArray, getElem_cons_zero, getElem_cons_succ]
    go_wp2_with fail
    first | exact ⟨rfl, rfl, rfl⟩ | rfl
  apply wpS_read (i := 1) rfl rfl ⟨_, (HS.drop2 (E := [.oa 74 108 (.slice A n c) rows]) (L := [.blk g1 74 R, .blk gt 66 (tabC (.slice A n c) last)]) hS)⟩ rfl
  · intro w' hT'
    simp only [getElem_toArray, getElem_cons_zero, getElem_cons_succ]
    go_wp2_with fail
    first | exact ⟨rfl, rfl, rfl⟩ | rfl
  apply wpS_read (i := 2) rfl rfl ⟨_, (HS.drop2 (E := [.oa 74 108 (.slice A n c) rows]) (L := [.blk g1 74 R, .blk gt 66 (tabC (.slice A n c) last)]) hS)⟩ rfl
  · intro w' hT'
    simp only [getElem_toArray, getElem_cons_zero, getElem_cons_succ]
    go_wp2_with fail
    first | exact ⟨rfl, rfl, rfl⟩ | rfl
  apply wpS_read (i := 3) rfl rfl ⟨_, (HS.drop2 (E := [.oa 74 108 (.slice A n c) rows]) (L := [.blk g1 74 R, .blk gt 66 (tabC (.slice A n c) last)]) hS)⟩ rfl
  · intro w' hT'
    simp only [getElem_toArray, getElem_cons_zero, getElem_cons_succ]
    go_wp2_with fail
    first | exact ⟨rfl, rfl, rfl⟩ | rfl
  apply wpS_read (i := 4) rfl rfl ⟨_, (HS.drop2 (E := [.oa 74 108 (.slice A n c) rows]) (L := [.blk g1 74 R, .blk gt 66 (tabC (.slice A n c) last)]) hS)⟩ rfl
  · intro w' hT'
    simp only [getElem_toArray, getElem_cons_zero, getElem_cons_succ]
    have ct : w'.cell? ⟨gt, 0, none⟩ = some (.slice A n c) := hT'.cell 1 rfl 0
    go_wp2_with (first
      | (refine hs_loadW hT' 0 rfl rfl 74 _ rfl rfl 108 sizeRow HL.out _ undRow.choose_spec rfl _ rfl ?_)
      | fail)
    first | exact ⟨rfl, rfl, rfl⟩ | rfl
  apply wpS_read (i := 5) rfl rfl ⟨_, (HS.drop2 (E := [.oa 74 108 (.slice A n c) rows]) (L := [.blk g1 74 R, .blk gt 66 (tabC (.slice A n c) last)]) hS)⟩ rfl
  · intro w' hT'
    simp only [getElem_toArray, getElem_cons_zero, getElem_cons_succ]
    have ct : w'.cell? ⟨gt, 0, none⟩ = some (.slice A n c) := hT'.cell 1 rfl 0
    go_wp2_with (first
      | (refine hs_loadW hT' 0 rfl rfl 74 _ rfl rfl 108 sizeRow HL.out _ undRow.choose_spec rfl _ rfl ?_)
      | fail)
    first | exact ⟨rfl, rfl, rfl⟩ | rfl
  refine wpS_soft (i := 6) rfl rfl rfl (Nat.le_of_ble_eq_true rfl) ?_ ?_
  · intro w' hT
    simp only [getElem_toArray, getElem_cons_zero, getElem_cons_succ]
    go_wp2_with (first
      | (go_at_call 58; refine (own_calls R xs B nb cb _ HL.out H1.out H102.out HNB.out HBB.out (hT.oldRd HR.out HRS.out) HX.out).mono ?_; rintro e w6 ⟨v, rfl, hv1, hB6⟩)
      | fail)
    exact SoftP.mk' (.agg (R.set 102 v).toArray) ([.os 5 v (ints .u8 xs)]) rfl (⟨v, rfl, hv1, rfl⟩) (HS.call (A := []) hT hB6 (fun _ h => False.elim h)) (hB6.bel) (fun e he j hj => (hB6.own e he j hj).resolve_left (fun h => h))
  intro u6 E6 hK6
  obtain ⟨v, rfl, hv1, rfl⟩ := hK6
  have HRL : Hd ((R.set 102 v).length = 108) := Go.Cour.hid (by rw [List.length_set]; exact HL.out)
  have HR1 : Hd (∀ x ∈ R.set 102 v, x.oneCell' = true) := Go.Cour.hid (fun x hx => by
    rcases List.mem_or_eq_of_mem_set hx with h | rfl
    · exact H1.out x h
    · exact hv1)
  simp only [Act.put, List.setIfInBounds_toArray, List.set_cons_zero, List.set_cons_succ]
  refine wpS_hard (i := 7) rfl rfl ?_
  intro w7 hT
  replace hT : HS F w w7 (.os 5 v (ints .u8 xs) :: [.oa 74 108 (.slice A n c) rows, .blk g1 74 R, .blk gt 66 (tabC (.slice A n c) last)]) := hT
  simp only [getElem_toArray, getElem_cons_zero, getElem_cons_succ]
  go_wp2_with (first
    | (refine literal_agg rfl 64 74 _ rfl (R.set 102 v) 108 rfl HRL.out undRows sizeRow zeroRowS (by omega) (by omega) ?_; intro gl w7 hga hba hBa hsa; replace hT := hT.pushBlk hBa hba hga; clear hga hba hBa hsa)
    | fail)
  refine HardP.mk' ([.blk gl 74 (R.set 102 v), .os 5 v (ints .u8 xs), .oa 74 108 (.slice A n c) rows]) rfl ?_ ?_
  · exact hT
  clear hT
  refine wpS_hard (i := 8) rfl rfl ?_
  intro w8 hT
  replace hT : HS F w w8 [.blk gl 74 (R.set 102 v), .os 5 v (ints .u8 xs), .oa 74 108 (.slice A n c) rows, .blk g1 74 R, .blk gt 66 (tabC (.slice A n c) last)] := hT
  simp only [getElem_toArray, getElem_cons_zero, getElem_cons_succ]
  go_wp2_with (first
    | (refine hs_appA hT 2 rfl rfl _ _ 64 rfl 200 undRows infoRow (by omega) rfl gl (R.set 102 v) rfl (hT.blk 0 rfl) HRL.out HR1.out (by rw [HRN.out]; omega) (by rw [HRN.out]; omega) _ rfl ?_; clear hT; intro A' n' c' w8 hn' hc' hT)
    | fail)
  refine HardP.mk' ([.blk gl 74 (R.set 102 v), .os 5 v (ints .u8 xs), .oa 74 108 (.slice A' n' c') (rows ++ [(R.set 102 v)])]) rfl ?_ ?_
  · exact hT
  clear hT
  apply wpS_read (i := 9) rfl rfl ⟨_, (HS.drop2 (E := [.oa 74 108 (.slice A n c) rows]) (L := [.blk g1 74 R, .blk gt 66 (tabC (.slice A n c) last)]) hS)⟩ rfl
  · intro w' hT'
    simp only [getElem_toArray, getElem_cons_zero, getElem_cons_succ]
    go_wp2_with fail
    first | exact ⟨rfl, rfl, rfl⟩ | rfl
  apply wpS_read (i := 10) rfl rfl ⟨_, (HS.drop2 (E := [.oa 74 108 (.slice A n c) rows]) (L := [.blk g1 74 R, .blk gt 66 (tabC (.slice A n c) last)]) hS)⟩ rfl
  · intro w' hT'
    simp only [getElem_toArray, getElem_cons_zero, getElem_cons_succ]
    go_wp2_with fail
    first | exact ⟨rfl, rfl, rfl⟩ | rfl
  refine wpS_tot (i := 11) rfl rfl (by kernel_rfl) ?_
  intro w11 hT
  replace hT : HS F w w11 [.blk gl 74 (R.set 102 v), .os 5 v (ints .u8 xs), .oa 74 108 (.slice A' n' c') (rows ++ [(R.set 102 v)]), .blk g1 74 R, .blk gt 66 (tabC (.slice A n c) last)] := hT
  simp only [getElem_toArray, getElem_cons_zero, getElem_cons_succ]
  go_wp2_with (first
    | (refine hs_store1 hT 4 rfl rfl 64 _ _ rfl 0 rfl (.slice A' n' c') rfl rfl sizeRowsM (by simp [tabC]) _ rfl ?_; clear hT; intro w9 hT)
    | fail)
  refine TotP.mk' ([.blk gl 74 (R.set 102 v), .os 5 v (ints .u8 xs), .oa 74 108 (.slice A' n' c') (rows ++ [(R.set 102 v)]), .blk g1 74 R, .blk gt 66 (tabC (.slice A' n' c') last)]) rfl ?_ ?_
  · exact hT
  clear hT
  refine wpS_end ?_
  intro wz hT
  try dsimp only
  clear hS
  have hS : HS F w wz [.blk gl 74 (R.set 102 v), .os 5 v (ints .u8 xs), .oa 74 108 (.slice A' n' c') (rows ++ [(R.set 102 v)]), .blk g1 74 R, .blk gt 66 (tabC (.slice A' n' c') last)] := hT
  clear hT
  obtain rfl : n + 1 = n' := by rw [← hn', HRN.out]
  have ci := (hS.cell 3 rfl 0).trans H0.out
  go_wp2_with (first
      | (refine hs_store1 hS 4 rfl rfl 3 _ _ rfl 1 rfl (.int .i64 id) rfl rfl sizeIntM (by simp [tabC]) _ rfl ?_; clear hS ci; intro w10 hS; replace hS : HS F w w10 [.blk gl 74 (R.set 102 v), .os 5 v (ints .u8 xs), .oa 74 108 (.slice A' (n + 1) c') (rows ++ [(R.set 102 v)]), .blk g1 74 R, .blk gt 66 (tabC (.slice A' (n + 1) c') id)] := hS)
      | fail)
  replace hS : HS F w w10 [.blk gt 66 (tabC (.slice A' (n + 1) c') id), .oa 74 108 (.slice A' (n + 1) c') (rows ++ [(R.set 102 v)]), .os 5 v (ints .u8 xs)] := ((hS.erase 3).erase 0).perm (p3b _ _ _)
  refine bodyPost_ret (results_tmp rfl _ _ _) rfl ?_
  exact ⟨rfl, A', c', v, hv1, hS⟩
end Go.Proofs.YtlikinglgegclaaDoor
/- table: find. -/
namespace Go.Cour
open Go.RowKit
/-- Cells loaded, whole, out of the midst of a block. -/
theorem load_cellsT {P : Program} {ops : Array Oper} {rest : List Oper} {o : Oper} {a : Act} {w : World} {Q : Exit → Act → World → Prop} (hw : Region.wanted o (yielded ops a.tmps) = true) (ty : TypeId) (x : Operand) (ho : o.op = .load ty x)
    (g j : Nat) (hx : a.eval x = .pointer (some ⟨g, j, none⟩)) (vs : List Value) (hc : ∀ m v, vs[m]? = some v → w.cell? ⟨g, j + m, none⟩ = some v) (n : Nat) (hs : (P.info? ty).map (·.size) = some n) (hn : vs.length = n) (b : TypeDesc) (hu : P.underlying ty = some b) (hb : b.isRow = true) (d : Option Tmp) (hd : o.dst = d)
    (h : wpList P ops Q rest (a.put d (.agg vs.toArray)) w) : wpList P ops Q (o :: rest) a w := by
  subst hd hn
  refine wpList_step fun K hK => ?_
  rw [if_pos hw]
  exact wp_load_mid ty x ho g j hx vs b hc hu hb hs (hK _ _ h)
end Go.Cour
namespace Go.Proofs.YtlikinglgegclaaDoor
open Go.RowKit Go.Cour
/-- Two numbers held against each other. -/
def cmpI (a b : Int) : Int := if a < b then -1 else if b < a then 1 else 0
set_option maxRecDepth 100000 in
theorem cmp_calls (a b : Int) (w : World) : Calls Tryd.prog 84 #[.int .i64 a, .int .i64 b] w fun e w' => e = .returned (.int .i64 (cmpI a b)) ∧ w' = w := by
  unfold cmpI
  by_cases h1 : a < b
  · rw [if_pos h1]
    go_enter Tryd.func84, Tryd.ntmps84
    go_wp2
    go_ret
    exact ⟨rfl, rfl⟩
  · rw [if_neg h1]
    by_cases h2 : b < a
    · rw [if_pos h2]
      go_enter Tryd.func84, Tryd.ntmps84
      go_wp2
      go_ret
      exact ⟨rfl, rfl⟩
    · rw [if_neg h2]
      go_enter Tryd.func84, Tryd.ntmps84
      go_wp2
      go_ret
      exact ⟨rfl, rfl⟩
set_option maxRecDepth 100000 in
theorem find1_calls (R : List Value) (id t : Int) (w : World) (h0 : R[0]? = some (.int .i64 id)) : Calls Tryd.prog 83 #[.agg R.toArray, .int .i64 t] w fun e w' => e = .returned (.int .i64 (cmpI id t)) ∧ Below w.heap.size w w' := by
  have hS := HS.start NoF w
  have H0 := hid h0
  clear h0
  go_enter Tryd.func83, Tryd.ntmps83
  go_wp2_with (first
    | (refine box_blk rfl 74 _ rfl _ rfl R rfl ?_; intro g1 w1 hga hba hBa hsa; replace hS : HS NoF w w1 [.blk g1 74 R] := hS.pushBlk hBa hba hga; clear hga hba hBa hsa; have c0 : w1.cell? ⟨g1, 0, none⟩ = _ := (hS.cell 0 rfl 0).trans H0.out)
    | (go_at_call 84; refine (cmp_calls id t _).mono ?_; rintro e w2 ⟨rfl, rfl⟩)
    | fail)
  go_ret
  exact ⟨rfl, hS.bel⟩
/-- Rows, by their numbers. -/
structure RowsOK (rows : List (List Value)) (ids : List Int) (n : Nat) : Prop where
  len : rows.length = n
  idl : ids.length = n
  each : ∀ (i : Nat) (r : List Value), rows[i]? = some r → r.length = 108 ∧ r[0]? = some (.int .i64 (rd ids i))
  sorted : ∀ (i j : Nat), i < j → j < n → rd ids i < rd ids j
set_option maxHeartbeats 1000000 in
set_option maxRecDepth 100000 in
theorem bsearch_calls (rows : List (List Value)) (ids : List Int) (A : Option Addr) (n c : Nat) (t : Int) (w : World) (ho : OwnA w 74 108 (.slice A n c) rows) (hok : RowsOK rows ids n) (hn : n ≤ 8) :
    Calls Tryd.prog 82 #[.slice A n c, .int .i64 t, .func (.func 83) #[] #[]] w fun e w' => ∃ (k : Nat) (b : Bool), e = .returned (.tuple #[.int .i64 (k : Int), .bool b]) ∧ Below w.heap.size w w' ∧ (b = true → k < n ∧ rd ids k = t) ∧ (b = false → ∀ i, i < n → rd ids i ≠ t) := by
  have hB := Below.refl w.heap.size w
  have HO := hid ho
  have HK := hid hok
  obtain ⟨fs, hfs⟩ := undRow
  clear ho hok
  go_enter Tryd.func82, Tryd.ntmps82
  go_wp2_with fail
  go_loopg [9, 10, 11] (n + 1) (fun kq v9 v10 v11 wr => ∃ i j : Nat, i ≤ j ∧ j ≤ n ∧ v9 = .int .i64 i ∧ v10 = .int .i64 j ∧ Hd (j < i + kq) ∧ Hd (∀ a, a < i → rd ids a < t) ∧ Hd (∀ a, j ≤ a → a < n → t ≤ rd ids a) ∧ Hd (Below w.heap.size w wr))
  case atStart => exact ⟨0, n, by omega, by omega, rfl, rfl, hid (by omega), hid (fun a h => by omega), hid (fun a h1 h2 => by omega), hid (Below.refl _ _)⟩
  case round =>
    clear hB
    obtain ⟨i, j, hij, hjn, rfl, rfl, hq, hlo, hhi, hB⟩ := hrel
    by_cases hlt : i < j
    · obtain ⟨h, hh⟩ : ∃ h : Nat, ((i : Int) + (j : Int)) / 2 = (h : Int) := ⟨(i + j) / 2, by omega⟩
      have hhb : i ≤ h ∧ h < j := by omega
      obtain ⟨R, hR⟩ : ∃ R, rows[h]? = some R := ⟨_, List.getElem?_eq_getElem (by rw [HK.out.len]; omega)⟩
      obtain ⟨A', c', hv, _, hcell⟩ := (HO.out.below hB.out).parts
      injection hv with hv1 hv2 hv3
      subst hv1 hv3
      obtain ⟨g, rfl, hc⟩ := hcell h R hR
      have HC := hid hc
      have HR := hid (HK.out.each h R hR)
      clear hc hcell hv2
      have hj9 : (i : Int) < j := by omega
      have hhn : (h : Int) < n := by omega
      go_wp2_with (first
        | (refine load_cellsT rfl 74 _ rfl g (h * 108) rfl R HC.out 108 sizeRow HR.out.1 _ hfs rfl _ rfl ?_)
        | fail)
      have hS1 : ∀ a, a < h → rd ids a < rd ids h := fun a ha => HK.out.sorted a h ha (by omega)
      have hS2 : ∀ a, h < a → a < n → rd ids h < rd ids a := fun a ha han => HK.out.sorted h a ha han
      have HS1 := hid hS1
      have HS2 := hid hS2
      clear hS1 hS2
      refine (find1_calls R (rd ids h) t _ HR.out.2).mono ?_
      rintro e w2 ⟨rfl, hB2⟩
      obtain ⟨x, hx⟩ : ∃ x, Hd (rd ids h = x) := ⟨_, hid rfl⟩
      rw [hx.out]
      by_cases hlt2 : x < t
      · rw [show cmpI x t = -1 by unfold cmpI; rw [if_pos hlt2]]
        go_wp2_with fail
        go_roundg (gk - 1)
        case measure => have := hq.out; omega
        case rel =>
          refine ⟨h + 1, j, by omega, hjn, by go_num, rfl, hid (by have := hq.out; omega), hid (fun a ha => ?_), hhi, hid (below_then hB.out hB.out.size hB2)⟩
          by_cases hah : a = h
          · subst hah; rw [hx.out]; exact hlt2
          · have := HS1.out a (by omega); rw [hx.out] at this; omega
      · obtain ⟨y, hy, hy0⟩ : ∃ y, cmpI x t = y ∧ ¬ y < 0 := ⟨_, rfl, by unfold cmpI; rw [if_neg hlt2]; split <;> omega⟩
        rw [hy]
        clear hy
        go_wp2_with fail
        go_roundg (gk - 1)
        case measure => have := hq.out; omega
        case rel =>
          refine ⟨i, h, by omega, by omega, rfl, rfl, hid (by have := hq.out; omega), hlo, hid (fun a ha han => ?_), hid (below_then hB.out hB.out.size hB2)⟩
          by_cases hah : a = h
          · subst hah; rw [hx.out]; omega
          · have := HS2.out a (by omega) han; rw [hx.out] at this; omega
    · obtain rfl : i = j := by omega
      by_cases hin : i < n
      · obtain ⟨R, hR⟩ : ∃ R, rows[i]? = some R := ⟨_, List.getElem?_eq_getElem (by rw [HK.out.len]; omega)⟩
        obtain ⟨A', c', hv, _, hcell⟩ := (HO.out.below hB.out).parts
        injection hv with hv1 hv2 hv3
        subst hv1 hv3
        obtain ⟨g, rfl, hc⟩ := hcell i R hR
        have HC := hid hc
        have HR := hid (HK.out.each i R hR)
        clear hc hcell hv2
        go_wp2_with (first
          | (refine load_cellsT rfl 74 _ rfl g (i * 108) rfl R HC.out 108 sizeRow HR.out.1 _ hfs rfl _ rfl ?_)
          | fail)
        refine (find1_calls R (rd ids i) t _ HR.out.2).mono ?_
        rintro e w2 ⟨rfl, hB2⟩
        obtain ⟨x, hx⟩ : ∃ x, Hd (rd ids i = x) := ⟨_, hid rfl⟩
        rw [hx.out]
        by_cases hxt : x = t
        · rw [show cmpI x t = 0 by unfold cmpI; rw [if_neg (by omega), if_neg (by omega)]]
          go_wp2_with fail
          refine bodyPost_ret (Go.Cour.results_tmp2 rfl _ _ rfl rfl) rfl ⟨i, true, rfl, below_then hB.out hB.out.size hB2, fun _ => ⟨hin, by rw [hx.out]; exact hxt⟩, fun h => by cases h⟩
        · obtain ⟨y, hy, hy0⟩ : ∃ y, cmpI x t = y ∧ ¬ y = 0 := ⟨_, rfl, by unfold cmpI; split; omega; split <;> omega⟩
          rw [hy]
          clear hy
          have hy1 : (y == 0) = false := by simpa using hy0
          go_wp2_with fail
          refine bodyPost_ret (Go.Cour.results_tmp2 rfl _ _ rfl rfl) rfl ⟨i, false, rfl, below_then hB.out hB.out.size hB2, (fun h => by cases h), fun _ a ha => ?_⟩
          have h1 := hlo.out a
          have h2 := hhi.out a
          rcases Nat.lt_trichotomy a i with h | rfl | h
          · have := h1 h; omega
          · rw [hx.out]; exact hxt
          · have h3 := hhi.out i (Nat.le_refl _) hin; have h4 := HK.out.sorted i a h ha; omega
      · obtain rfl : i = n := by omega
        go_wp2_with fail
        refine bodyPost_ret (Go.Cour.results_tmp2 rfl _ _ rfl rfl) rfl ⟨i, false, rfl, hB.out, (fun h => by cases h), fun _ a ha => ?_⟩
        have := hlo.out a ha; omega
set_option maxRecDepth 100000 in
theorem find_calls (rows : List (List Value)) (ids : List Int) (A : Option Addr) (n c gt : Nat) (t last : Int) (w : World) (hb : Blk w gt 66 (tabC (.slice A n c) last)) (ho : OwnA w 74 108 (.slice A n c) rows) (hok : RowsOK rows ids n) (hn : n ≤ 8) :
    Calls Tryd.prog 59 #[.pointer (some ⟨gt, 0, none⟩), .int .i64 t] w fun e w' => ∃ (k : Nat) (b : Bool), e = .returned (.tuple #[.int .i64 (k : Int), .bool b]) ∧ Below w.heap.size w w' ∧ (b = true → k < n ∧ rd ids k = t) ∧ (b = false → ∀ i, i < n → rd ids i ≠ t) := by
  have c0 : w.cell? ⟨gt, 0, none⟩ = some (.slice A n c) := hb.cell 0
  have HO := hid ho
  clear hb ho
  go_enter Tryd.func59, Tryd.ntmps59
  go_wp2_with fail
  refine (bsearch_calls rows ids A n c t _ HO.out hok hn).mono ?_
  rintro e w2 ⟨k, b, rfl, hB, h1, h2⟩
  go_wp2_with fail
  refine bodyPost_ret (Go.Cour.results_tmp2 rfl _ _ rfl rfl) rfl ⟨k, b, rfl, hB, h1, h2⟩
end Go.Proofs.YtlikinglgegclaaDoor
/- Chapter 26's examples. -/
namespace Go.Proofs.YtlikinglgegclaaDoor
open Go.RowKit Go.Cour
theorem numN_calls (a b : Int) (w : World) (hb : 0 < b) (hb2 : b < 4611686018427387904) : Calls Tryd.prog 7 #[.int .i64 a, .int .i64 b] w fun e w' => ∃ k : Nat, (k : Int) < b ∧ e = .returned (.int .i64 (k : Int)) ∧ w = w' :=
  (number_calls a b w hb hb2).mono fun e w' ⟨h1, h2⟩ => ⟨(a % b).toNat, by have := Int.emod_nonneg a (show b ≠ 0 by omega); have := Int.emod_lt_of_pos a hb; omega, by rw [h1]; have := Int.emod_nonneg a (show b ≠ 0 by omega); congr 2; omega, h2.symm⟩
theorem zeroTab : ((Tryd.prog.info? 66).bind (·.zero)).map (·.cells) = some (tabC (.slice none 0 0) 0).toArray := by kernel_rfl
theorem builtRow3 (a b c : Int) : Tryd.prog.built 74 [(0, .int .i64 a), (1, .int .i64 b), (2, .int .i64 c)] = some (endC a b c (dscZ 0 0 0) (.slice none 0 0)).toArray := by kernel_rfl
set_option maxHeartbeats 2000000 in
set_option maxRecDepth 100000 in
theorem first26_calls (w : World) : Calls Tryd.prog 27 #[] w fun e w' => e = .returned (.bool true) ∧ Below w.heap.size w w' := by
  have hS := HS.start NoF w
  have hneq := nil_nil
  have H1 := hid (endC_one 1 1 1 (dscZ 0 0 0) (.slice none 0 0) (descC_one _ _ _ _ _ _) rfl)
  have HL := hid (endC_length 1 1 1 (dscZ 0 0 0) (.slice none 0 0) (dscZ_length 0 0 0))
  have H0 : Hd ((endC 1 1 1 (dscZ 0 0 0) (.slice none 0 0))[0]? = some (.int .i64 1)) := hid rfl
  have H102 : Hd ((endC 1 1 1 (dscZ 0 0 0) (.slice none 0 0))[102]? = some (.slice none 0 0)) := hid (by simp [endC, rowC, dscZ, descC])
  have HB := hid (builtRow3 1 1 1)
  generalize endC 1 1 1 (dscZ 0 0 0) (.slice none 0 0) = R at *
  go_enter Tryd.func27, Tryd.ntmps27
  go_wp2_with (first
    | (refine alloc_blk rfl 66 rfl _ rfl (tabC (.slice none 0 0) 0) zeroTab ?_; intro g1 w1 hga hba hBa hsa; replace hS : HS NoF w w1 [.blk g1 66 (tabC (.slice none 0 0) 0)] := hS.pushBlk hBa hba hga; clear hga hba hBa hsa)
    | (refine build_to rfl 74 _ rfl R.toArray (by rw [Array.toList_map]; exact HB.out) ?_)
    | fail)
  refine (next_calls 0 g1 _ (hS.cell 0 rfl 1) (by omega)).mono ?_
  rintro e w2 ⟨rfl, hw2⟩
  subst hw2
  go_wp2_with (first
    | (refine build_to rfl 74 _ rfl R.toArray (by rw [Array.toList_map]; exact HB.out) ?_)
    | (go_at_call 29; refine (add_calls R [] [] 1 0 g1 none none 0 0 0 0 _ (hS.blk 0 rfl) (OwnA.nil _ _ _) (fun h => by simp [Value.ownBlock] at h) (by omega) rfl (by omega) HL.out H1.out H0.out H102.out rfl (fun _ => rfl) (.inl rfl) (fun _ h => by cases h) (by simp)).mono ?_; rintro e w3 ⟨rfl, A', c', v, hv1, hq⟩
       replace hS : HS NoF w w3 [.blk g1 66 (tabC (.slice A' (0 + 1) c') 1), .oa 74 108 (.slice A' (0 + 1) c') ([] ++ [R.set 102 v]), .os 5 v (ints .u8 [])] := HS.call (A := [.blk g1 66 (tabC (.slice none 0 0) 0)]) (L := []) hS hq (fun k hk => hk.elim (fun h => ⟨_, List.mem_cons_self .., h⟩) (fun h => by simp [Value.ownBlock] at h)))
    | fail)
  refine (next_calls 1 g1 _ (hS.cell 0 rfl 1) (by omega)).mono ?_
  rintro e w4 ⟨rfl, hw4⟩
  subst hw4
  go_wp2_with fail
  go_ret
  exact ⟨rfl, hS.bel⟩
end Go.Proofs.YtlikinglgegclaaDoor
/- The reference's tree: Leaf, Node, Split, Root. -/
namespace Go.Proofs.YtlikinglgegclaaDoor
open Go.RowKit Go.Cour
def leafOf (xs : List Int) : List Int := shaOf (0 :: xs)
def nodeOf (l r : List Int) : List Int := shaOf (1 :: (l ++ r))
theorem leafOf_length (xs : List Int) : (leafOf xs).length = 32 := shaOf_length _
theorem nodeOf_length (l r : List Int) : (nodeOf l r).length = 32 := shaOf_length _
theorem leafOf_B8 (xs : List Int) : ∀ x ∈ leafOf xs, B8 x := shaOf_B8 _
theorem nodeOf_B8 (l r : List Int) : ∀ x ∈ nodeOf l r, B8 x := shaOf_B8 _
theorem B8_cons {y : Int} {xs : List Int} (hy : B8 y) (h : ∀ x ∈ xs, B8 x) : ∀ x ∈ y :: xs, B8 x := fun x hx => by
  rcases List.mem_cons.1 hx with rfl | hx
  · exact hy
  · exact h x hx
theorem B8_append {xs ys : List Int} (h : ∀ x ∈ xs, B8 x) (h' : ∀ x ∈ ys, B8 x) : ∀ x ∈ xs ++ ys, B8 x := fun x hx => by
  rcases List.mem_append.1 hx with hx | hx
  · exact h x hx
  · exact h' x hx
theorem one_B8 : B8 1 := ⟨by decide, by decide⟩
/-- A new digest's block. -/
def ZH (g : Nat) : Ent := .blk g 30 (ints .u8 (List.replicate 32 0))
/-- A block read as numbers. -/
theorem Blk.rdA {w : World} {g : Nat} {t : TypeId} {k : IntKind} {xs : List Int} (h : Blk w g t (ints k xs)) : Rd w (some ⟨g, 0, none⟩) k xs := .inr ⟨g, 0, rfl, fun i hi => by rw [Nat.zero_add]; exact Go.Cour.Blk.cellI h i hi⟩
set_option maxHeartbeats 1000000 in
set_option maxRecDepth 100000 in
theorem leaf16_calls (xs : List Int) (A : Option Addr) (m c : Nat) (w : World) (hm : xs.length = m) (hr : Rd w A .u8 xs) (hx : ∀ x ∈ xs, B8 x) (hsz : m ≤ 900000) :
    Calls Tryd.prog 15 #[.slice A m c] w fun e w' => e = .returned (.agg (ints .u8 (leafOf xs)).toArray) ∧ Below w.heap.size w w' := by
  have HM := hid hm
  have HR := hid hr
  have HX := hid hx
  have hS := HS.start NoF w
  have hsz2 : m ≤ 900000 := hsz
  have HLL : Hd ((leafOf xs).length = 32) := hid (leafOf_length xs)
  obtain ⟨ds, hds⟩ : ∃ ds, Hd (leafOf xs = ds) := ⟨_, hid rfl⟩
  rw [hds.out] at HLL
  clear hm hr hx
  go_enter Tryd.func15, Tryd.ntmps15
  go_wp2_with (first
    | (refine alloc_blk rfl 30 rfl _ rfl (ints .u8 (List.replicate 32 0)) zeroHashS ?_; intro g2 w2 hga hba hBa hsa; replace hS := hS.pushBlk hBa hba hga; clear hga hba hBa hsa)
    | (refine hs_one hS rfl 24 5 _ rfl undBytesS sizeU8S zeroU8S (.int .u8 0) rfl rfl _ rfl ?_; clear hS; intro go wo hgo hBo hS; clear hgo hBo)
    | (refine hs_append hS 0 rfl rfl _ _ 24 rfl 1 undBytesS infoU8S zeroU8S rfl A m c rfl (ints .u8 xs) (by rw [ints_length]; exact HM.out) (news_of_rd (hS.oldRd HR.out (fun _ _ _ h => h))) (ints_one' _ _) (by simp; omega) (by simp; omega) _ rfl ?_
       clear hS; intro A3 n3 c3 w5 hn3 hc3 hA3 hS; have HN3 := hid hn3; clear hn3
       replace hS : HS NoF w w5 [.os 5 (.slice A3 n3 c3) (ints .u8 (0 :: xs)), .blk g2 30 (ints .u8 (List.replicate 32 0))] := hS)
    | (go_at_call 13; refine (sum1_calls (0 :: xs) A3 n3 c3 _ (by rw [← HN3.out]; simp) ((hS.os 0 rfl).rd rfl) (B8_cons zero_B8 HX.out) (by rw [← HN3.out]; simp [HM.out]; omega)).mono ?_; rintro e w6 ⟨rfl, hB6⟩; replace hS := hS.below hB6; rw [show shaOf (0 :: xs) = ds from hds.out])
    | (refine hs_storeW hS 1 rfl rfl 30 _ _ rfl rfl (ints .u8 ds) rfl (ints_one' _ _) _ infoHashS (by simp [HLL.out]) (by simp) _ rfl ?_; clear hS; intro w9 hS)
    | fail)
  refine bodyPost_ret (results_blk rfl _ _ g2 _ _ 32 _ rfl (hS.blk 1 rfl) arrHashS (by simp [HLL.out]) infoHashS) rfl ⟨by rw [hds.out], hS.bel⟩
set_option maxHeartbeats 1000000 in
set_option maxRecDepth 100000 in
theorem node16_calls (l r : List Int) (w : World) (hl : l.length = 32) (hr : r.length = 32) (bl : ∀ x ∈ l, B8 x) (br : ∀ x ∈ r, B8 x) :
    Calls Tryd.prog 44 #[.agg (ints .u8 l).toArray, .agg (ints .u8 r).toArray] w fun e w' => e = .returned (.agg (ints .u8 (nodeOf l r)).toArray) ∧ Below w.heap.size w w' := by
  have HL := hid hl
  have HR := hid hr
  have BL := hid bl
  have BR := hid br
  have hS := HS.start NoF w
  have HLL : Hd ((nodeOf l r).length = 32) := hid (nodeOf_length l r)
  obtain ⟨ds, hds⟩ : ∃ ds, Hd (nodeOf l r = ds) := ⟨_, hid rfl⟩
  rw [hds.out] at HLL
  clear hl hr bl br
  go_enter Tryd.func44, Tryd.ntmps44
  go_wp2_with (first
    | (refine box_blk rfl 30 _ rfl _ rfl (ints .u8 l) rfl ?_; intro g2 w2 hga hba hBa hsa; replace hS := hS.pushBlk hBa hba hga; clear hga hba hBa hsa)
    | (refine box_blk rfl 30 _ rfl _ rfl (ints .u8 r) rfl ?_; intro g3 w3 hga hba hBa hsa; replace hS := hS.pushBlk hBa hba hga; clear hga hba hBa hsa)
    | (refine alloc_blk rfl 30 rfl _ rfl (ints .u8 (List.replicate 32 0)) zeroHashS ?_; intro g4 w4 hga hba hBa hsa; replace hS := hS.pushBlk hBa hba hga; clear hga hba hBa hsa)
    | fail)
  try go_wp2_with fail
  refine wp_region_S (F := NoF) (w0 := w) (L0 := [ZH g4, .blk g3 30 (ints .u8 r), .blk g2 30 (ints .u8 l)]) [] [0, 2, 4, 5, 6]
    (fun iK u E => match iK with
      | _ => False)
    ([]) (by kernel_rfl) (by kernel_rfl) hS ?_
  show wpS _ _ _ _ _ _ _ _ _ _ [0, 1, 2, 3, 4, 5, 6] _
  refine wpS_hard (i := 0) rfl rfl ?_
  intro w0 hT
  simp only [getElem_toArray, getElem_cons_zero, getElem_cons_succ]
  go_wp2_with (first
    | (refine hs_one hT rfl 24 5 _ rfl undBytesS sizeU8S zeroU8S (.int .u8 1) rfl rfl _ rfl ?_; clear hT; intro go wo hgo hBo hT)
    | fail)
  refine HardP.mk' ([.os 5 (.slice (some ⟨go, 0, none⟩) 1 1) (ints .u8 [1])]) rfl ?_ ?_
  · exact hT
  clear hT
  clear hgo hBo
  apply wpS_read (i := 1) rfl rfl ⟨_, hS⟩ rfl
  · intro w' hT'
    simp only [getElem_toArray, getElem_cons_zero, getElem_cons_succ]
    go_wp2_with fail
    first | exact ⟨rfl, rfl, rfl⟩ | rfl
  refine wpS_hard (i := 2) rfl rfl ?_
  intro w2 hT
  replace hT : HS NoF w w2 [.os 5 (.slice (some ⟨go, 0, none⟩) 1 1) (ints .u8 [1]), ZH g4, .blk g3 30 (ints .u8 r), .blk g2 30 (ints .u8 l)] := hT
  simp only [getElem_toArray, getElem_cons_zero, getElem_cons_succ]
  go_wp2_with (first
    | (refine hs_append hT 0 rfl rfl _ _ 24 rfl 1 undBytesS infoU8S zeroU8S rfl (some ⟨g2, 0, none⟩) 32 32 rfl (ints .u8 l) (by rw [ints_length]; exact HL.out) (news_of_rd (Blk.rdA (hT.blk 3 rfl))) (ints_one' _ _) (by rw [ints_length]; simp [HL.out]) (by rw [ints_length]; simp [HL.out]) _ rfl ?_; clear hT; intro A5 n5 c5 wz hn hc5 hA5 hT; have HN5 := hid hn; clear hn)
    | fail)
  refine HardP.mk' ([.os 5 (.slice A5 n5 c5) (ints .u8 (1 :: l))]) rfl ?_ ?_
  · exact hT
  clear hT
  apply wpS_read (i := 3) rfl rfl ⟨_, hS⟩ rfl
  · intro w' hT'
    simp only [getElem_toArray, getElem_cons_zero, getElem_cons_succ]
    go_wp2_with fail
    first | exact ⟨rfl, rfl, rfl⟩ | rfl
  refine wpS_hard (i := 4) rfl rfl ?_
  intro w4 hT
  replace hT : HS NoF w w4 [.os 5 (.slice A5 n5 c5) (ints .u8 (1 :: l)), ZH g4, .blk g3 30 (ints .u8 r), .blk g2 30 (ints .u8 l)] := hT
  simp only [getElem_toArray, getElem_cons_zero, getElem_cons_succ]
  go_wp2_with (first
    | (have HQ5 : Hd (n5 = 33) := hid (by rw [← HN5.out]; simp [HL.out]); refine hs_append hT 0 rfl rfl _ _ 24 rfl 1 undBytesS infoU8S zeroU8S rfl (some ⟨g3, 0, none⟩) 32 32 rfl (ints .u8 r) (by rw [ints_length]; exact HR.out) (news_of_rd (Blk.rdA (hT.blk 2 rfl))) (ints_one' _ _) (by rw [ints_length]; simp [HL.out]) (by rw [ints_length]; simp [HL.out]) _ rfl ?_; clear hT; intro A7 n7 c7 wz hn hc7 hA7 hT; have HN7 := hid hn; clear hn; rw [← ints_append] at hT)
    | fail)
  refine HardP.mk' ([.os 5 (.slice A7 n7 c7) (ints .u8 (1 :: (l ++ r)))]) rfl ?_ ?_
  · exact hT
  clear hT
  refine wpS_hard (i := 5) rfl rfl ?_
  intro w5 hT
  replace hT : HS NoF w w5 [.os 5 (.slice A7 n7 c7) (ints .u8 (1 :: (l ++ r))), ZH g4, .blk g3 30 (ints .u8 r), .blk g2 30 (ints .u8 l)] := hT
  simp only [getElem_toArray, getElem_cons_zero, getElem_cons_succ]
  go_wp2_with (first
    | (go_at_call 13; refine (sum1_calls (1 :: (l ++ r)) A7 n7 c7 _ (by rw [← HN7.out]; simp; omega) ((hT.os 0 rfl).rd rfl) (B8_cons one_B8 (B8_append BL.out BR.out)) (by rw [← HN7.out]; simp [HL.out, HR.out])).mono ?_; rintro e wq ⟨rfl, hB6⟩; replace hT := hT.below hB6; rw [show shaOf (1 :: (l ++ r)) = ds from hds.out])
    | fail)
  refine HardP.mk' ([.os 5 (.slice A7 n7 c7) (ints .u8 (1 :: (l ++ r)))]) rfl ?_ ?_
  · exact hT
  clear hT
  refine wpS_tot (i := 6) rfl rfl (by kernel_rfl) ?_
  intro w6 hT
  replace hT : HS NoF w w6 [.os 5 (.slice A7 n7 c7) (ints .u8 (1 :: (l ++ r))), ZH g4, .blk g3 30 (ints .u8 r), .blk g2 30 (ints .u8 l)] := hT
  simp only [getElem_toArray, getElem_cons_zero, getElem_cons_succ]
  go_wp2_with (first
    | (refine hs_storeW hT 1 rfl rfl 30 _ _ rfl rfl (ints .u8 ds) rfl (ints_one' _ _) _ infoHashS (by simp [HLL.out]) (by simp) _ rfl ?_; clear hT; intro w9 hT)
    | fail)
  refine TotP.mk' ([.os 5 (.slice A7 n7 c7) (ints .u8 (1 :: (l ++ r))), .blk g4 30 (ints .u8 ds), .blk g3 30 (ints .u8 r), .blk g2 30 (ints .u8 l)]) rfl ?_ ?_
  · exact hT
  clear hT
  refine wpS_end ?_
  intro wz hT
  try dsimp only
  clear hS
  have hS : HS NoF w wz [.os 5 (.slice A7 n7 c7) (ints .u8 (1 :: (l ++ r))), .blk g4 30 (ints .u8 ds), .blk g3 30 (ints .u8 r), .blk g2 30 (ints .u8 l)] := hT
  clear hT
  go_wp2_with fail
  refine bodyPost_ret (results_blk rfl _ _ g4 _ _ 32 _ rfl (hS.blk 1 rfl) arrHashS (by simp [HLL.out]) infoHashS) rfl ⟨by rw [hds.out], hS.bel⟩
/-- The greatest power of two below n, by doubling. -/
def splitF : Nat → Nat → Nat → Nat
  | 0, k, _ => k
  | f + 1, k, n => if k < n - k then splitF f (2 * k) n else k
def splitOf (n : Nat) : Nat := if n < 2 then 0 else splitF n 1 n
theorem splitF_pos : ∀ (f k n : Nat), 0 < k → k < n → 0 < splitF f k n ∧ splitF f k n < n
  | 0, k, n, h, h' => ⟨h, h'⟩
  | f + 1, k, n, h, h' => by
    unfold splitF
    split
    · exact splitF_pos f (2 * k) n (by omega) (by omega)
    · exact ⟨h, h'⟩
theorem splitOf_pos {n : Nat} (h : 2 ≤ n) : 0 < splitOf n ∧ splitOf n < n := by
  unfold splitOf
  rw [if_neg (by omega)]
  exact splitF_pos n 1 n (by omega) (by omega)
set_option maxHeartbeats 1000000 in
set_option maxRecDepth 100000 in
theorem split16_calls (n : Nat) (w : World) (h2 : 2 ≤ n) (hn : n ≤ 1000000) :
    Calls Tryd.prog 43 #[.int .i64 (n : Int)] w fun e w' => e = .returned (.int .i64 (splitOf n : Nat)) ∧ w' = w := by
  have hS : Hd (splitF n 1 n = splitOf n) := hid (by unfold splitOf; rw [if_neg (by omega)])
  have hlt : ¬ (n : Int) < 2 := by omega
  go_enter Tryd.func43, Tryd.ntmps43
  go_wp2_with fail
  go_loopg [3] (n + 1) (fun kq v3 wr => ∃ k : Nat, 0 < k ∧ k < n ∧ v3 = .int .i64 k ∧ Hd (∃ q, kq = q + 1 ∧ n ≤ q + k ∧ splitF q k n = splitOf n) ∧ wr = w)
  case atStart => exact ⟨1, by omega, by omega, rfl, hid ⟨n, rfl, by omega, hS.out⟩, rfl⟩
  case round =>
    obtain ⟨k, hk, hkn, rfl, hq, rfl⟩ := hrel
    by_cases hd : k < n - k
    · have hd2 : (k : Int) < (n : Int) - k := by omega
      go_wp2_with fail
      go_roundg (gk - 1)
      case measure => obtain ⟨q, h1, h2, h3⟩ := hq.out; omega
      case rel =>
        obtain ⟨q, h1, h2, h3⟩ := hq.out
        obtain ⟨p, rfl⟩ : ∃ p, q = p + 1 := ⟨q - 1, by omega⟩
        refine ⟨2 * k, by omega, by omega, by go_num, hid ⟨p, by omega, by omega, ?_⟩, rfl⟩
        rw [← h3]
        conv => rhs; unfold splitF
        rw [if_pos hd]
    · have hd2 : ¬ (k : Int) < (n : Int) - k := by omega
      have hk2 : Hd (splitOf n = k) := hid (by
        obtain ⟨q, h1, h2, h3⟩ := hq.out
        rw [← h3]
        cases q with
        | zero => rfl
        | succ p => unfold splitF; rw [if_neg hd])
      go_wp2_with fail
      go_ret
      exact ⟨by rw [hk2.out]; rfl, rfl⟩
/-- Digests, one behind the other in memory. -/
def HRd (w : World) (A : Option Addr) (hss : List (List Int)) : Prop := hss = [] ∨ ∃ g o, A = some ⟨g, o, none⟩ ∧ ∀ i h j u, hss[i]? = some h → (ints .u8 h)[j]? = some u → w.cell? ⟨g, o + i * 32 + j, none⟩ = some u
theorem HRd.below {w w' : World} {A : Option Addr} {hss : List (List Int)} (h : HRd w A hss) (hb : Below w.heap.size w w') : HRd w' A hss := by
  rcases h with h | ⟨g, o, h1, h2⟩
  · exact .inl h
  · exact .inr ⟨g, o, h1, fun i x j u hi hj => (hb.cell (lt_of_cell (h2 i x j u hi hj))).trans (h2 i x j u hi hj)⟩
theorem HRd.take {w : World} {A : Option Addr} {hss : List (List Int)} (h : HRd w A hss) (n : Nat) : HRd w A (hss.take n) := by
  rcases h with h | ⟨g, o, h1, h2⟩
  · exact .inl (by rw [h]; simp)
  · refine .inr ⟨g, o, h1, fun i x j u hi hj => h2 i x j u ?_ hj⟩
    rw [List.getElem?_take] at hi
    split at hi
    · exact hi
    · cases hi
theorem HRd.drop {w : World} {g o : Nat} {hss : List (List Int)} (h : HRd w (some ⟨g, o, none⟩) hss) (n : Nat) : HRd w (some ⟨g, o + n * 32, none⟩) (hss.drop n) := by
  rcases h with h | ⟨g', o', h1, h2⟩
  · exact .inl (by rw [h]; simp)
  · injection h1 with h1; injection h1 with h1 h3; subst h1 h3
    refine .inr ⟨g, o + n * 32, rfl, fun i x j u hi hj => ?_⟩
    rw [List.getElem?_drop] at hi
    have := h2 (n + i) x j u hi hj
    rw [show o + n * 32 + i * 32 + j = o + (n + i) * 32 + j by rw [Nat.add_mul]; omega]
    exact this
theorem HRd.oldS {w0 w : World} {L : List Ent} (hS : HS NoF w0 w L) {A : Option Addr} {hss : List (List Int)} (h : HRd w0 A hss) : HRd w A hss := by
  rcases h with h | ⟨g, o, h1, h2⟩
  · exact .inl h
  · exact .inr ⟨g, o, h1, fun i x j u hi hj => hS.oldCell (h2 i x j u hi hj) (fun h => h)⟩
theorem undLHashT : Tryd.prog.underlying 40 = some (.slice 30) := by kernel_rfl
/-- The root of a tree over digests. -/
def rootF : Nat → List (List Int) → List Int
  | 0, _ => shaOf []
  | f + 1, l => if l.length = 0 then shaOf [] else if l.length = 1 then l.headD [] else nodeOf (rootF f (l.take (splitOf l.length))) (rootF f (l.drop (splitOf l.length)))
def rootOf (l : List (List Int)) : List Int := rootF l.length l
theorem rootF_eq : ∀ (f g : Nat) (l : List (List Int)), l.length ≤ f → l.length ≤ g → rootF f l = rootF g l
  | 0, 0, _, _, _ => rfl
  | 0, g + 1, l, h, _ => by unfold rootF; rw [if_pos (by omega)]
  | f + 1, 0, l, _, h => by unfold rootF; rw [if_pos (by omega)]
  | f + 1, g + 1, l, h, h' => by
    unfold rootF
    split
    · rfl
    · split
      · rfl
      · have := splitOf_pos (n := l.length) (by omega)
        rw [rootF_eq f g _ (by rw [List.length_take]; omega) (by rw [List.length_take]; omega), rootF_eq f g _ (by rw [List.length_drop]; omega) (by rw [List.length_drop]; omega)]
def H32 (l : List (List Int)) : Prop := ∀ h ∈ l, h.length = 32 ∧ ∀ x ∈ h, B8 x
theorem H32.take {l : List (List Int)} (h : H32 l) (n : Nat) : H32 (l.take n) := fun x hx => h x (List.mem_of_mem_take hx)
theorem H32.drop {l : List (List Int)} (h : H32 l) (n : Nat) : H32 (l.drop n) := fun x hx => h x (List.mem_of_mem_drop hx)
theorem rootF_H32 : ∀ (f : Nat) (l : List (List Int)), H32 l → (rootF f l).length = 32 ∧ ∀ x ∈ rootF f l, B8 x
  | 0, _, _ => ⟨shaOf_length _, shaOf_B8 _⟩
  | f + 1, l, h => by
    unfold rootF
    split
    · exact ⟨shaOf_length _, shaOf_B8 _⟩
    · split
      · cases l with
        | nil => simp at *
        | cons x l => exact h x (by simp)
      · exact ⟨nodeOf_length _ _, nodeOf_B8 _ _⟩
set_option maxHeartbeats 1000000 in
set_option maxRecDepth 100000 in
theorem root16_calls : ∀ (f : Nat) (hss : List (List Int)) (A : Option Addr) (n c : Nat) (w : World) (_ : hss.length = n) (_ : n ≤ f) (_ : HRd w A hss) (_ : H32 hss) (_ : n ≤ c) (_ : n ≤ 100000),
    Calls Tryd.prog 18 #[.slice A n c] w fun e w' => e = .returned (.agg (ints .u8 (rootF f hss)).toArray) ∧ Below w.heap.size w w' := by
  intro f
  induction f with
  | zero =>
    intro hss A n c w hl hf hr h32 hc hn
    obtain rfl : n = 0 := by omega
    have hS := HS.start NoF w
    clear hl hf hr h32 hc hn
    have HSL : Hd ((shaOf []).length = 32) := hid (shaOf_length [])
    obtain ⟨ds, hds⟩ : ∃ ds, Hd (shaOf [] = ds) := ⟨_, hid rfl⟩
    rw [hds.out] at HSL
    go_enter Tryd.func18, Tryd.ntmps18
    go_wp2_with (first
      | (refine alloc_blk rfl 30 rfl _ rfl (ints .u8 (List.replicate 32 0)) zeroHashS ?_; intro g2 w2 hga hba hBa hsa; replace hS := hS.pushBlk hBa hba hga; clear hga hba hBa hsa)
      | (go_at_call 13; refine (sum1_calls [] none 0 0 _ rfl (.inl rfl) (fun _ h => by cases h) (by omega)).mono ?_; rintro e w6 ⟨rfl, hB6⟩; replace hS := hS.below hB6; rw [hds.out])
      | (refine hs_storeW hS 0 rfl rfl 30 _ _ rfl rfl (ints .u8 ds) rfl (ints_one' _ _) _ infoHashS (by simp [HSL.out]) (by simp) _ rfl ?_; clear hS; intro w9 hS)
      | fail)
    refine bodyPost_ret (results_blk rfl _ _ g2 _ _ 32 _ rfl (hS.blk 0 rfl) arrHashS (by simp [HSL.out]) infoHashS) rfl ⟨by unfold rootF; rw [hds.out], hS.bel⟩
  | succ f ih =>
    intro hss A n c w hl hf hr h32 hc hn
    by_cases h0 : n = 0
    · subst h0
      have hS := HS.start NoF w
      have hR : Hd (rootF (f + 1) hss = shaOf []) := hid (by unfold rootF; rw [if_pos hl])
      clear hl hf hr h32 hc hn
      have HSL : Hd ((shaOf []).length = 32) := hid (shaOf_length [])
      obtain ⟨ds, hds⟩ : ∃ ds, Hd (shaOf [] = ds) := ⟨_, hid rfl⟩
      rw [hds.out] at HSL hR
      rw [hR.out]
      go_enter Tryd.func18, Tryd.ntmps18
      go_wp2_with (first
        | (refine alloc_blk rfl 30 rfl _ rfl (ints .u8 (List.replicate 32 0)) zeroHashS ?_; intro g2 w2 hga hba hBa hsa; replace hS := hS.pushBlk hBa hba hga; clear hga hba hBa hsa)
        | (go_at_call 13; refine (sum1_calls [] none 0 0 _ rfl (.inl rfl) (fun _ h => by cases h) (by omega)).mono ?_; rintro e w6 ⟨rfl, hB6⟩; replace hS := hS.below hB6; rw [hds.out])
        | (refine hs_storeW hS 0 rfl rfl 30 _ _ rfl rfl (ints .u8 ds) rfl (ints_one' _ _) _ infoHashS (by simp [HSL.out]) (by simp) _ rfl ?_; clear hS; intro w9 hS)
        | fail)
      refine bodyPost_ret (results_blk rfl _ _ g2 _ _ 32 _ rfl (hS.blk 0 rfl) arrHashS (by simp [HSL.out]) infoHashS) rfl ⟨rfl, hS.bel⟩
    · by_cases h1 : n = 1
      · subst h1
        have hS := HS.start NoF w
        obtain ⟨x, rfl⟩ := List.length_eq_one_iff.1 hl
        have HXL : Hd (x.length = 32) := hid (h32 x (by simp)).1
        have hR : Hd (rootF (f + 1) [x] = x) := hid rfl
        rw [hR.out]
        obtain ⟨g, o, rfl, hcell⟩ : ∃ g o, A = some ⟨g, o, none⟩ ∧ ∀ j v, (ints .u8 x)[j]? = some v → w.cell? ⟨g, o + j, none⟩ = some v := by
          rcases hr with h | ⟨g, o, h1, h2⟩
          · cases h
          · exact ⟨g, o, h1, fun j v hj => by have := h2 0 x j v rfl hj; rwa [Nat.zero_mul, Nat.add_zero] at this⟩
        have HC := hid hcell
        clear hl hf hr h32 hn h0 hcell hR
        go_enter Tryd.func18, Tryd.ntmps18
        go_wp2_with (first
          | (refine alloc_blk rfl 30 rfl _ rfl (ints .u8 (List.replicate 32 0)) zeroHashS ?_; intro g2 w2 hga hba hBa hsa; replace hS := hS.pushBlk hBa hba hga; clear hga hba hBa hsa)
          | (refine load_in rfl 30 _ rfl g o rfl (ints .u8 x) (fun j v hj => hS.oldCell (HC.out j v hj) (fun h => h)) 32 5 arrHashS (by simp [HXL.out]) infoHashS ?_)
          | (refine hs_storeW hS 0 rfl rfl 30 _ _ rfl rfl (ints .u8 x) rfl (ints_one' _ _) _ infoHashS (by simp [HXL.out]) (by simp) _ rfl ?_; clear hS; intro w9 hS)
          | fail)
        refine bodyPost_ret (results_blk rfl _ _ g2 _ _ 32 _ rfl (hS.blk 0 rfl) arrHashS (by simp [HXL.out]) infoHashS) rfl ⟨rfl, hS.bel⟩
      · have hS := HS.start NoF w
        have hp := splitOf_pos (n := n) (by omega)
        have hR : Hd (rootF (f + 1) hss = nodeOf (rootF f (hss.take (splitOf n))) (rootF f (hss.drop (splitOf n)))) := hid (by
          conv => lhs; unfold rootF
          rw [hl, if_neg h0, if_neg h1])
        obtain ⟨g, o, rfl⟩ : ∃ g o, A = some ⟨g, o, none⟩ := by
          rcases hr with h | ⟨g, o, h1, _⟩
          · subst h; simp at hl; omega
          · exact ⟨g, o, h1⟩
        have HS1 := hid (rootF_H32 f _ (h32.take (splitOf n)))
        have HS2 := hid (rootF_H32 f _ (h32.drop (splitOf n)))
        have hsp := split16_calls n
        obtain ⟨k, hk⟩ : ∃ k, splitOf n = k := ⟨_, rfl⟩
        rw [hk] at hR HS1 HS2 hp hsp
        have HR1 := hid (hr.take k)
        have HR2 := hid (hr.drop k)
        have H1 := hid (h32.take k)
        have H2 := hid (h32.drop k)
        have HL1 : Hd ((hss.take k).length = k) := hid (by rw [List.length_take]; omega)
        have HL2 : Hd ((hss.drop k).length = n - k) := hid (by rw [List.length_drop]; omega)
        rw [hR.out]
        generalize hss.take k = ls at *
        generalize hss.drop k = rs at *
        obtain ⟨X, hX⟩ : ∃ X, Hd (rootF f ls = X) := ⟨_, hid rfl⟩
        obtain ⟨Y, hY⟩ : ∃ Y, Hd (rootF f rs = Y) := ⟨_, hid rfl⟩
        rw [hX.out] at HS1
        rw [hY.out] at HS2
        rw [hX.out, hY.out]
        have HDL : Hd ((nodeOf X Y).length = 32) := hid (nodeOf_length X Y)
        obtain ⟨ds, hds⟩ : ∃ ds, Hd (nodeOf X Y = ds) := ⟨_, hid rfl⟩
        rw [hds.out] at HDL
        obtain ⟨d, hd⟩ : ∃ d, n - k = d := ⟨_, rfl⟩
        rw [hd] at HL2
        have HF := hid hf
        have HP := hid hp
        have HD := hid hd
        have HI := hid ih
        clear hl hr h32 hR hk hf ih hp hd
        have hn0 : ¬ (n : Int) = 0 := by omega
        have hn1 : ¬ (n : Int) = 1 := by omega
        have hn2 : 2 ≤ n := by omega
        go_enter Tryd.func18, Tryd.ntmps18
        go_wp2_with (first
          | (refine alloc_blk rfl 30 rfl _ rfl (ints .u8 (List.replicate 32 0)) zeroHashS ?_; intro g2 w2 hga hba hBa hsa; replace hS := hS.pushBlk hBa hba hga; clear hga hba hBa hsa)
          | (go_at_call 43; refine (hsp _ (by omega) (by omega)).mono ?_; rintro e w6 ⟨rfl, rfl⟩)
          | fail)
        try go_wp2_with fail
        refine wp_region_S (F := NoF) (w0 := w) (L0 := [ZH g2]) [3, 7, 8] [9]
          (fun iK u E => match iK with
            | 3 => u = .agg (ints .u8 X).toArray ∧ E = []
            | 7 => u = .agg (ints .u8 Y).toArray ∧ E = []
            | 8 => u = .agg (ints .u8 ds).toArray ∧ E = []
            | _ => False)
          ([]) (by kernel_rfl) (by kernel_rfl) hS ?_
        show wpS _ _ _ _ _ _ _ _ _ _ [0, 1, 2, 3, 4, 5, 6, 7, 8, 9] _
        apply wpS_read (i := 0) rfl rfl ⟨_, hS⟩ rfl
        · intro w' hT'
          simp only [getElem_toArray, getElem_cons_zero, getElem_cons_succ]
          go_wp2_with fail
          first | exact ⟨rfl, rfl, rfl⟩ | rfl
        apply wpS_read (i := 1) rfl rfl ⟨_, hS⟩ rfl
        · intro w' hT'
          simp only [getElem_toArray, getElem_cons_zero, getElem_cons_succ]
          go_wp2_with fail
          first | exact ⟨rfl, rfl, rfl⟩ | rfl
        apply wpS_read (i := 2) rfl rfl ⟨_, hS⟩ rfl
        · intro w' hT'
          simp only [getElem_toArray, getElem_cons_zero, getElem_cons_succ]
          go_wp2_with (first
            | (refine slice_hiS rfl _ _ 40 rfl 30 undLHashT 32 infoHashS g o n c k rfl rfl (by have := HP.out; omega) (by omega) _ rfl ?_)
            | (refine slice_loS rfl _ _ 40 rfl 30 undLHashT 32 infoHashS g o n c k d rfl rfl (by have := HP.out; omega) (by have := HP.out; omega) HD.out _ rfl ?_)
            | fail)
          first | exact ⟨rfl, rfl, rfl⟩ | rfl
        refine wpS_soft (i := 3) rfl rfl rfl (Nat.le_of_ble_eq_true rfl) ?_ ?_
        · intro w' hT
          simp only [getElem_toArray, getElem_cons_zero, getElem_cons_succ]
          go_wp2_with (first
            | (go_at_call 18; refine (HI.out ls (some ⟨g, o, none⟩) k c _ HL1.out (by have := HF.out; have := HP.out; omega) (HRd.oldS hT HR1.out) H1.out (by have := HP.out; omega) (by have := HP.out; omega)).mono ?_; rintro e w6 ⟨rfl, hB6⟩; rw [hX.out])
            | fail)
          exact SoftP.mk' (.agg (ints .u8 X).toArray) ([]) rfl (⟨rfl, rfl⟩) (hT.below hB6) (hB6) (fun _ h => by cases h)
        intro u3 E3 hK3
        obtain ⟨rfl, rfl⟩ := hK3
        simp only [Act.put, List.setIfInBounds_toArray, List.set_cons_zero, List.set_cons_succ]
        apply wpS_read (i := 4) rfl rfl ⟨_, hS⟩ rfl
        · intro w' hT'
          simp only [getElem_toArray, getElem_cons_zero, getElem_cons_succ]
          go_wp2_with fail
          first | exact ⟨rfl, rfl, rfl⟩ | rfl
        apply wpS_read (i := 5) rfl rfl ⟨_, hS⟩ rfl
        · intro w' hT'
          simp only [getElem_toArray, getElem_cons_zero, getElem_cons_succ]
          go_wp2_with fail
          first | exact ⟨rfl, rfl, rfl⟩ | rfl
        apply wpS_read (i := 6) rfl rfl ⟨_, hS⟩ rfl
        · intro w' hT'
          simp only [getElem_toArray, getElem_cons_zero, getElem_cons_succ]
          go_wp2_with (first
            | (refine slice_hiS rfl _ _ 40 rfl 30 undLHashT 32 infoHashS g o n c k rfl rfl (by have := HP.out; omega) (by omega) _ rfl ?_)
            | (refine slice_loS rfl _ _ 40 rfl 30 undLHashT 32 infoHashS g o n c k d rfl rfl (by have := HP.out; omega) (by have := HP.out; omega) HD.out _ rfl ?_)
            | fail)
          first | exact ⟨rfl, rfl, rfl⟩ | rfl
        refine wpS_soft (i := 7) rfl rfl rfl (Nat.le_of_ble_eq_true rfl) ?_ ?_
        · intro w' hT
          simp only [getElem_toArray, getElem_cons_zero, getElem_cons_succ]
          go_wp2_with (first
            | (go_at_call 18; refine (HI.out rs (some ⟨g, o + k * 32, none⟩) d (c - k) _ HL2.out (by have := HF.out; have := HP.out; have := HD.out; omega) (HRd.oldS hT HR2.out) H2.out (by have := HP.out; have := HD.out; omega) (by have := HP.out; have := HD.out; omega)).mono ?_; rintro e w6 ⟨rfl, hB6⟩; rw [hY.out])
            | fail)
          exact SoftP.mk' (.agg (ints .u8 Y).toArray) ([]) rfl (⟨rfl, rfl⟩) (hT.below hB6) (hB6) (fun _ h => by cases h)
        intro u7 E7 hK7
        obtain ⟨rfl, rfl⟩ := hK7
        simp only [Act.put, List.setIfInBounds_toArray, List.set_cons_zero, List.set_cons_succ]
        refine wpS_soft (i := 8) rfl rfl rfl (Nat.le_of_ble_eq_true rfl) ?_ ?_
        · intro w' hT
          simp only [getElem_toArray, getElem_cons_zero, getElem_cons_succ]
          go_wp2_with (first
            | (go_at_call 44; refine (node16_calls X Y _ HS1.out.1 HS2.out.1 HS1.out.2 HS2.out.2).mono ?_; rintro e w6 ⟨rfl, hB6⟩; rw [hds.out])
            | fail)
          exact SoftP.mk' (.agg (ints .u8 ds).toArray) ([]) rfl (⟨rfl, rfl⟩) (hT.below hB6) (hB6) (fun _ h => by cases h)
        intro u8 E8 hK8
        obtain ⟨rfl, rfl⟩ := hK8
        simp only [Act.put, List.setIfInBounds_toArray, List.set_cons_zero, List.set_cons_succ]
        refine wpS_tot (i := 9) rfl rfl (by kernel_rfl) ?_
        intro w9 hT
        replace hT : HS NoF w w9 [ZH g2] := hT
        simp only [getElem_toArray, getElem_cons_zero, getElem_cons_succ]
        go_wp2_with (first
          | (refine hs_storeW hT 0 rfl rfl 30 _ _ rfl rfl (ints .u8 ds) rfl (ints_one' _ _) _ infoHashS (by simp [HDL.out]) (by simp) _ rfl ?_; clear hT; intro w9 hT)
          | fail)
        refine TotP.mk' ([.blk g2 30 (ints .u8 ds)]) rfl ?_ ?_
        · exact hT
        clear hT
        refine wpS_end ?_
        intro wz hT
        try dsimp only
        clear hS
        have hS : HS NoF w wz [.blk g2 30 (ints .u8 ds)] := hT
        clear hT
        go_wp2_with fail
        refine bodyPost_ret (results_blk rfl _ _ g2 _ _ 32 _ rfl (hS.blk 0 rfl) arrHashS (by simp [HDL.out]) infoHashS) rfl ⟨by rw [hds.out], hS.bel⟩
end Go.Proofs.YtlikinglgegclaaDoor
/- The reference's Make. -/
namespace Go.Proofs.YtlikinglgegclaaDoor
open Go.RowKit Go.Cour
def zeroD : List Value := descC 0 0 0 (List.replicate 32 0) (List.replicate 32 0) (List.replicate 32 0)
theorem zeroD_length : zeroD.length = 99 := descC_length (by simp) (by simp) (by simp)
theorem zeroDesc : ((Tryd.prog.info? 32).bind (·.zero)).map (·.cells) = some zeroD.toArray := by kernel_rfl
theorem builtDesc (id m q : Int) (key root blob : List Int) (hk : key.length = 32) (hr : root.length = 32) (hb : blob.length = 32) : Tryd.prog.built 32 [(0, .int .u32 id), (1, .int .u32 m), (2, .int .u32 q), (3, .agg (ints .u8 key).toArray), (4, .agg (ints .u8 root).toArray), (5, .agg (ints .u8 blob).toArray)] = some (descC id m q key root blob).toArray := by
  match key, hk with
  | [x0, x1, x2, x3, x4, x5, x6, x7, x8, x9, x10, x11, x12, x13, x14, x15, x16, x17, x18, x19, x20, x21, x22, x23, x24, x25, x26, x27, x28, x29, x30, x31], _ =>
    match root, hr with
    | [y0, y1, y2, y3, y4, y5, y6, y7, y8, y9, y10, y11, y12, y13, y14, y15, y16, y17, y18, y19, y20, y21, y22, y23, y24, y25, y26, y27, y28, y29, y30, y31], _ =>
      match blob, hb with
      | [z0, z1, z2, z3, z4, z5, z6, z7, z8, z9, z10, z11, z12, z13, z14, z15, z16, z17, z18, z19, z20, z21, z22, z23, z24, z25, z26, z27, z28, z29, z30, z31], _ => change _ = _; kernel_rfl
def ZD (g : Nat) : Ent := .blk g 32 zeroD
/-- A blob's hashes, and the blob. -/
def hashesOf (ts : List (List Int)) : List (List Int) := ts.map leafOf
def blobOf (ts : List (List Int)) : List Int := (hashesOf ts).flatten ++ ts.flatten
def rowsOf (hs : List (List Int)) : List (List Value) := hs.map (ints .u8)
theorem hashesOf_H32 (ts : List (List Int)) : H32 (hashesOf ts) := fun h hh => by
  obtain ⟨X, _, rfl⟩ := List.mem_map.1 hh
  exact ⟨leafOf_length X, leafOf_B8 X⟩
theorem ownA_hrd {w : World} {e : TypeId} {A : Option Addr} {n c : Nat} {hss : List (List Int)} (h : OwnA w e 32 (.slice A n c) (rowsOf hss)) : HRd w A hss ∧ n = hss.length ∧ n ≤ c := by
  obtain ⟨A', c', hv, hc, hr⟩ := h.parts
  injection hv with h1 h2 h3
  subst h1 h3
  have hn : n = hss.length := by rw [h2]; simp [rowsOf]
  refine ⟨?_, hn, by rw [h2]; exact hc⟩
  by_cases h0 : hss = []
  · exact .inl h0
  · have hg : ∀ (i : Nat) (x : List Int), hss[i]? = some x → (rowsOf hss)[i]? = some (ints .u8 x) := fun i x hx => by unfold rowsOf; rw [List.getElem?_map, hx]; rfl
    obtain ⟨g, hA, _⟩ := hr 0 _ (hg 0 _ (List.getElem?_eq_getElem (List.length_pos_iff.2 h0)))
    refine .inr ⟨g, 0, hA, fun i x j u hi hj => ?_⟩
    obtain ⟨g', hA', hcell⟩ := hr i _ (hg i x hi)
    rw [hA] at hA'
    injection hA' with hA'; injection hA' with hA'
    subst hA'
    rw [Nat.zero_add]
    exact hcell j u hj
theorem flat_le {ts : List (List Int)} {b : Nat} (h : ∀ X ∈ ts, X.length ≤ b) : ts.flatten.length ≤ b * ts.length := by
  induction ts with
  | nil => simp
  | cons X ts ih =>
    have h1 := h X (by simp)
    have h2 := ih fun Y hY => h Y (by simp [hY])
    rw [List.flatten_cons, List.length_append, List.length_cons, Nat.mul_succ]
    omega
theorem flat_B8 {ts : List (List Int)} (h : ∀ X ∈ ts, ∀ x ∈ X, B8 x) : ∀ x ∈ ts.flatten, B8 x := fun x hx => by
  obtain ⟨X, hX, hx⟩ := List.mem_flatten.1 hx
  exact h X hX x hx
theorem take_snoc {α : Type} {l : List α} {i : Nat} {x : α} (h : l[i]? = some x) : l.take (i + 1) = l.take i ++ [x] := by rw [List.take_add_one, h]; rfl
theorem infoHashA : (Tryd.prog.info? 30).map (fun i => (i.zero.map (·.cells.size), i.size, i.bytes)) = some (some 32, 32, 32) := by kernel_rfl
theorem zeroHashA : ((Tryd.prog.info? 30).bind (·.zero)).isSome = true := by kernel_rfl
theorem infoKeyS : (Tryd.prog.info? 27).map (·.size) = some 32 := by kernel_rfl
theorem arrKeyS : Tryd.prog.underlying 27 = some (.array 32 5) := by kernel_rfl
set_option maxHeartbeats 2000000 in
set_option maxRecDepth 100000 in
theorem make16_calls (key xs : List Int) (id q : Int) (A : Option Addr) (m c : Nat) (w : World) (hk : key.length = 32) (rk : bytesOk key)
    (rx : bytesOk xs) (hm : xs.length = m) (hA : A = none → c = 0) (hc : m ≤ c) (hr : Rd w A .u8 xs) (hl : m ≤ 600) (hq : 1 ≤ q ∧ q ≤ 64) (hi : 0 ≤ id ∧ id < 4294967296) :
    Calls Tryd.prog 28 #[.int .u32 id, .slice A m c, .int .i64 q, .agg (ints .u8 key).toArray] w fun e w' => ∃ v, e = .returned (.tuple #[.agg (descC id m q key (rootOf (hashesOf (allTexts key xs q))) (shaOf (blobOf (allTexts key xs q)))).toArray, v]) ∧ OwnS w' 5 v (ints .u8 (blobOf (allTexts key xs q))) ∧ (∀ k, v.ownBlock = some k → w.heap.size ≤ k) ∧ Below w.heap.size w w' := by
  have HK := hid hk
  have RK := hid rk
  have RX := hid rx
  have HM := hid hm
  have HA := hid hA
  have HR := hid hr
  have hS := HS.start NoF w
  have HTS := hid (allTexts_size key xs q (by omega) hq)
  have HTO := hid (allTexts_ok key xs q rx hq)
  clear hk rk rx hm hA hr
  obtain ⟨hq1, hq2⟩ := hq
  have hl2 : ¬ (600 : Int) < m := by omega
  have hq3 : ¬ q < 1 := by omega
  have hq4 : ¬ (64 : Int) < q := by omega
  go_enter Tryd.func28, Tryd.ntmps28
  go_wp2_with (first
    | (refine box_blk rfl 27 _ rfl _ rfl (ints .u8 key) rfl ?_; intro g7 w7 hga hba hBa hsa; replace hS := hS.pushBlk hBa hba hga; clear hga hba hBa hsa)
    | (refine alloc_blk rfl 32 rfl _ rfl zeroD zeroDesc ?_; intro g8 w8 hga hba hBa hsa; replace hS : HS NoF w w8 [ZD g8, .blk g7 27 (ints .u8 key)] := hS.pushBlk hBa hba hga; clear hga hba hBa hsa)
    | (refine hs_loadW hS 1 rfl rfl 27 _ rfl rfl 32 infoKeyS (by simp [HK.out]) _ arrKeyS rfl _ rfl ?_)
    | (go_at_call 57; refine (all16_calls key xs q A m c _ HK.out RK.out RX.out HM.out.symm HA.out hc (hS.oldRd HR.out (fun _ _ _ h => h)) (by rw [HM.out]; omega) (by omega)).mono ?_; rintro e w5 ⟨v5, rfl, hox, hB5⟩
       replace hS := hS.pushSnap hB5; clear hB5
       obtain ⟨A5, c5, rfl, hc5, hp5⟩ := ownL_prd hox
       obtain ⟨B5, hB5⟩ : ∃ B, Hd (w8.heap.size = B) := ⟨_, hid rfl⟩
       rw [hB5.out] at hS hox
       have HP : Hd (∀ w', (∀ k, B5 ≤ k → k < w5.heap.size → w'.heap[k]? = w5.heap[k]?) → PRd w' A5 (allTexts key xs q)) := hid (fun w' hs => by
         obtain ⟨A', c', hv', _, hp⟩ := ownL_prd (OwnL.snap hox hs)
         injection hv' with h1
         subst h1
         exact hp)
       clear hox hp5)
    | fail)
  obtain ⟨ts, hts⟩ : ∃ ts, Hd (allTexts key xs q = ts) := ⟨_, hid rfl⟩
  rw [hts.out] at hc5 HTS HTO HP ⊢
  obtain ⟨N, hN⟩ : ∃ N, Hd (ts.length = N) := ⟨_, hid rfl⟩
  rw [hN.out] at hc5 HTS ⊢
  have hN6 : N ≤ 600 := HTS.out
  have hHL : Hd ((hashesOf ts).length = N) := hid (by rw [← hN.out]; simp [hashesOf])
  have hH32 := hid (hashesOf_H32 ts)
  replace hS : HS NoF w w5 [.oa 30 32 (.slice none 0 0) (rowsOf ((hashesOf ts).take 0)), .os 5 (.slice none 0 0) (ints .u8 ((hashesOf ts).take 0).flatten), .snap B5 w5, ZD g8, .blk g7 27 (ints .u8 key)] := (hS.push (Below.refl _ _) (.os 5 (.slice none 0 0) []) (OwnS.nil _ _) (fun k hk => by simp [Ent.os, Value.ownBlock] at hk)).push (Below.refl _ _) (.oa 30 32 (.slice none 0 0) []) (OwnA.nil _ _ _) (fun k hk => by simp [Ent.oa, Value.ownBlock] at hk)
  go_loopg [11, 12, 13] N (fun kq v11 v12 v13 wr => ∃ (i : Nat) (A1 : Option Addr) (n1 c1 : Nat) (A2 : Option Addr) (n2 c2 : Nat), i ≤ N ∧ v11 = .slice A1 n1 c1 ∧ v12 = .slice A2 n2 c2 ∧ v13 = .int .i64 i ∧ Hd (kq + i = N) ∧ HS NoF w wr [.oa 30 32 (.slice A1 n1 c1) (rowsOf ((hashesOf ts).take i)), .os 5 (.slice A2 n2 c2) (ints .u8 ((hashesOf ts).take i).flatten), .snap B5 w5, ZD g8, .blk g7 27 (ints .u8 key)])
  case atStart => exact ⟨0, none, 0, 0, none, 0, 0, Nat.zero_le _, rfl, rfl, rfl, hid (by omega), hS⟩
  case round =>
    clear hS
    obtain ⟨i, A1, n1, c1, A2, n2, c2, hi, rfl, rfl, rfl, hqq, hS⟩ := hrel
    by_cases hlt : i < N
    · obtain ⟨gx, ox, X, Ax, cx, hAx, hX, CX, RXX⟩ := (HP.out _ (hS.snap 2 rfl)).at i (by rw [hN.out]; exact hlt)
      have HX := hid hX
      have HRX := hid RXX
      have HXB := hid (HTO.out X (List.mem_of_getElem? hX))
      clear hX RXX
      obtain ⟨xn, hxn⟩ : ∃ xn, Hd (X.length = xn) := ⟨_, hid rfl⟩
      rw [hxn.out] at CX
      have hYL : Hd ((leafOf X).length = 32) := hid (leafOf_length X)
      have HY : Hd ((hashesOf ts)[i]? = some (leafOf X)) := hid (by unfold hashesOf; rw [List.getElem?_map, HX.out]; rfl)
      obtain ⟨Y, hY⟩ : ∃ Y, Hd (leafOf X = Y) := ⟨_, hid rfl⟩
      rw [hY.out] at HY hYL
      have hlt2 : (i : Int) < N := by omega
      have HRR : Hd (rowsOf ((hashesOf ts).take i) ++ [ints .u8 Y] = rowsOf ((hashesOf ts).take (i + 1))) := hid (by rw [take_snoc HY.out]; simp [rowsOf])
      have HBB : Hd (((hashesOf ts).take i).flatten ++ Y = ((hashesOf ts).take (i + 1)).flatten) := hid (by rw [take_snoc HY.out]; simp)
      have HRL : Hd ((rowsOf ((hashesOf ts).take i)).length = i) := hid (by simp [rowsOf, hHL.out]; omega)
      have HBL : Hd (((hashesOf ts).take i).flatten.length ≤ 32 * 600) := hid (by
        have := flat_le (ts := (hashesOf ts).take i) (b := 32) (fun X hX => Nat.le_of_eq (hH32.out X (List.mem_of_mem_take hX)).1)
        rw [List.length_take] at this
        have h2 : min i (hashesOf ts).length ≤ 600 := by omega
        exact Nat.le_trans this (Nat.mul_le_mul_left _ h2))
      generalize rowsOf ((hashesOf ts).take i) = R at *
      generalize ((hashesOf ts).take i).flatten = B at *
      subst hAx
      go_wp2_with (first
        | (go_at_call 15; refine (leaf16_calls X Ax xn cx _ hxn.out HRX.out HXB.out.2 (by have := HXB.out.1; have := hxn.out; omega)).mono ?_; rintro e w6 ⟨rfl, hB6⟩; replace hS := hS.below hB6; clear CX hB6; rw [hY.out])
        | (refine alloc_blk rfl 30 rfl _ rfl (ints .u8 (List.replicate 32 0)) zeroHashS ?_; intro g14 w14 hga hba hBa hsa; replace hS := hS.pushBlk hBa hba hga; clear hga hba hBa hsa)
        | (refine hs_storeW hS 0 rfl rfl 30 _ _ rfl rfl (ints .u8 Y) rfl (ints_one' _ _) _ infoHashS (by simp [hYL.out]) (by simp) _ rfl ?_; clear hS; intro w15 hS; replace hS : HS NoF w w15 (.blk g14 30 (ints .u8 Y) :: [.oa 30 32 (.slice A1 n1 c1) R, .os 5 (.slice A2 n2 c2) (ints .u8 B), .snap B5 w5, ZD g8, .blk g7 27 (ints .u8 key)]) := hS)
        | (refine hs_loadW hS 0 rfl rfl 30 _ rfl rfl 32 infoHashS (by simp [hYL.out]) _ arrHashS rfl _ rfl ?_)
        | (refine literal_agg rfl 40 30 _ rfl (ints .u8 Y) 32 rfl (by simp [hYL.out]) undLHashT infoHashS zeroHashA (by omega) (by omega) ?_; intro g16 w16 hga hba hBa hsa; replace hS := hS.pushBlk hBa hba hga; clear hga hba hBa hsa)
        | (refine hs_appA hS 2 rfl rfl _ _ 40 rfl 32 undLHashT infoHashA (by omega) rfl g16 (ints .u8 Y) rfl (hS.blk 0 rfl) (by simp [hYL.out]) (ints_one' _ _) (by rw [HRL.out]; omega) (by rw [HRL.out]; omega) _ rfl ?_
           clear hS; intro A3 n3 c3 w17 hn3 hc3 hS; clear hn3
           replace hS : HS NoF w w17 (.blk g16 30 (ints .u8 Y) :: .blk g14 30 (ints .u8 Y) :: [.oa 30 32 (.slice A3 n3 c3) (R ++ [ints .u8 Y]), .os 5 (.slice A2 n2 c2) (ints .u8 B), .snap B5 w5, ZD g8, .blk g7 27 (ints .u8 key)]) := hS)
        | (refine hs_append hS 3 rfl rfl _ _ 24 rfl 1 undBytesS infoU8S zeroU8S rfl (some ⟨g14, 0, none⟩) 32 32 rfl (ints .u8 Y) (by rw [ints_length]; exact hYL.out) (news_of_rd (Blk.rdA (hS.blk 1 rfl))) (ints_one' _ _) (by rw [ints_length]; have := HBL.out; omega) (by rw [ints_length]; have := HBL.out; omega) _ rfl ?_
           clear hS; intro A4 n4 c4 w18 hn4 hc4 hA4 hS; clear hn4; rw [← ints_append] at hS
           replace hS : HS NoF w w18 [.oa 30 32 (.slice A3 n3 c3) (R ++ [ints .u8 Y]), .os 5 (.slice A4 n4 c4) (ints .u8 (B ++ Y)), .snap B5 w5, ZD g8, .blk g7 27 (ints .u8 key)] := (hS.erase 0).erase 0)
        | fail)
      rw [HRR.out, HBB.out] at hS
      go_roundg (gk - 1)
      case measure => have := hqq.out; omega
      case rel => exact ⟨i + 1, A3, n3, c3, A4, n4, c4, by omega, rfl, rfl, by go_num, hid (by have := hqq.out; omega), hS⟩
    · obtain rfl : i = N := by omega
      have hlt2 : ¬ (i : Int) < i := by omega
      rw [List.take_of_length_le (by rw [hHL.out]; omega)] at hS
      have HBL : Hd ((hashesOf ts).flatten.length ≤ 32 * 600) := hid (by
        have := flat_le (ts := hashesOf ts) (b := 32) (fun X hX => Nat.le_of_eq (hH32.out X hX).1)
        have h2 : (hashesOf ts).length ≤ 600 := by rw [hHL.out]; omega
        exact Nat.le_trans this (Nat.mul_le_mul_left _ h2))
      have HBO : Hd ((hashesOf ts).flatten ++ ts.flatten = blobOf ts) := hid rfl
      have HB8 : Hd (∀ x ∈ blobOf ts, B8 x) := hid (B8_append (flat_B8 fun X hX => (hH32.out X hX).2) (flat_B8 fun X hX => (HTO.out X hX).2))
      have HRF : Hd (rootF i (hashesOf ts) = rootOf (hashesOf ts)) := hid (rootF_eq _ _ _ (by rw [hHL.out]; omega) (Nat.le_refl _))
      have HRT := hid (rootF_H32 i _ hH32.out)
      have HSL : Hd ((shaOf (blobOf ts)).length = 32) := hid (shaOf_length _)
      obtain ⟨D, hD⟩ : ∃ D, Hd (shaOf (blobOf ts) = D) := ⟨_, hid rfl⟩
      rw [hD.out] at HSL
      rw [HRF.out] at HRT
      obtain ⟨RT, hRT⟩ : ∃ RT, Hd (rootOf (hashesOf ts) = RT) := ⟨_, hid rfl⟩
      rw [hRT.out] at HRT HRF
      obtain ⟨hs, hhs⟩ : ∃ hs, Hd (hashesOf ts = hs) := ⟨_, hid rfl⟩
      rw [hhs.out] at hS HBL HBO hHL hH32 HRF
      go_wp2_with fail
      clear hlt
      replace hS : HS NoF w wr [.oa 30 32 (.slice A1 n1 c1) (rowsOf hs), .os 5 (.slice A2 n2 c2) (ints .u8 (hs.flatten ++ (ts.take 0).flatten)), .snap B5 w5, ZD g8, .blk g7 27 (ints .u8 key)] := by simpa using hS
      go_loopg [12, 15] i (fun kq v12 v15 wr => ∃ (j : Nat) (A2 : Option Addr) (n2 c2 : Nat), j ≤ i ∧ v12 = .slice A2 n2 c2 ∧ v15 = .int .i64 j ∧ Hd (kq + j = i) ∧ HS NoF w wr [.oa 30 32 (.slice A1 n1 c1) (rowsOf hs), .os 5 (.slice A2 n2 c2) (ints .u8 (hs.flatten ++ (ts.take j).flatten)), .snap B5 w5, ZD g8, .blk g7 27 (ints .u8 key)])
      case atStart => exact ⟨0, A2, n2, c2, Nat.zero_le _, rfl, rfl, hid (by omega), hS⟩
      case round =>
        clear hS
        obtain ⟨j, A2, n2, c2, hj, rfl, rfl, hqj, hS⟩ := hrel
        by_cases hlt : j < i
        · obtain ⟨gx, ox, X, Ax, cx, hAx, hX, CX, RXX⟩ := (HP.out _ (hS.snap 2 rfl)).at j (by rw [hN.out]; exact hlt)
          have HX := hid hX
          have HRX := hid RXX
          have HXB := hid (HTO.out X (List.mem_of_getElem? hX))
          clear hX RXX
          obtain ⟨xn, hxn⟩ : ∃ xn, Hd (X.length = xn) := ⟨_, hid rfl⟩
          rw [hxn.out] at CX
          have hlt3 : (j : Int) < i := by omega
          have hxb : xn ≤ 80 := by have := HXB.out.1; have := hxn.out; omega
          have HBB : Hd (hs.flatten ++ (ts.take j).flatten ++ X = hs.flatten ++ (ts.take (j + 1)).flatten) := hid (by rw [take_snoc HX.out]; simp)
          have HTL : Hd ((hs.flatten ++ (ts.take j).flatten).length ≤ 32 * 600 + 80 * 600) := hid (by
            have := flat_le (ts := ts.take j) (b := 80) (fun X hX => (HTO.out X (List.mem_of_mem_take hX)).1)
            rw [List.length_take] at this
            have h2 : min j ts.length ≤ 600 := by omega
            rw [List.length_append]
            have h3 := Nat.mul_le_mul_left 80 h2
            have := HBL.out
            omega)
          generalize hs.flatten ++ (ts.take j).flatten = B at *
          subst hAx
          go_wp2_with (first
            | (refine hs_append hS 1 rfl rfl _ _ 24 rfl 1 undBytesS infoU8S zeroU8S rfl Ax xn cx rfl (ints .u8 X) (by rw [ints_length]; exact hxn.out) (news_of_rd HRX.out) (ints_one' _ _) (by rw [ints_length]; have := HTL.out; omega) (by rw [ints_length]; have := HTL.out; omega) _ rfl ?_
               clear hS CX; intro A4 n4 c4 w18 hn4 hc4 hA4 hS; clear hn4; rw [← ints_append] at hS
               replace hS : HS NoF w w18 [.oa 30 32 (.slice A1 n1 c1) (rowsOf hs), .os 5 (.slice A4 n4 c4) (ints .u8 (B ++ X)), .snap B5 w5, ZD g8, .blk g7 27 (ints .u8 key)] := hS)
            | fail)
          rw [HBB.out] at hS
          go_roundg (gk - 1)
          case measure => have := hqj.out; omega
          case rel => exact ⟨j + 1, A4, n4, c4, by omega, rfl, by go_num, hid (by have := hqj.out; omega), hS⟩
        · obtain rfl : j = i := by omega
          have hlt3 : ¬ (j : Int) < j := by omega
          rw [List.take_of_length_le (by rw [hN.out]; omega), HBO.out] at hS
          have HBZ : Hd ((blobOf ts).length ≤ 100000) := hid (by
            have h1 := flat_le (ts := ts) (b := 80) (fun X hX => (HTO.out X hX).1)
            have h2 : ts.length ≤ 600 := by rw [hN.out]; omega
            rw [← HBO.out, List.length_append]
            have h3 := Nat.mul_le_mul_left 80 h2
            have := HBL.out
            omega)
          obtain ⟨bs, hbs⟩ : ∃ bs, Hd (blobOf ts = bs) := ⟨_, hid rfl⟩
          rw [hbs.out] at hS HBZ HB8 hD
          go_wp2_with fail
          clear hlt
          replace hS : HS NoF w wr [ZD g8, .oa 30 32 (.slice A1 n1 c1) (rowsOf hs), .os 5 (.slice A2 n2 c2) (ints .u8 bs), .snap B5 w5, .blk g7 27 (ints .u8 key)] := hS.perm (List.perm_middle (l₁ := [_, _, _]))
          try go_wp2_with fail
          refine wp_region_S (F := NoF) (w0 := w) (L0 := [.oa 30 32 (.slice A1 n1 c1) (rowsOf hs), .os 5 (.slice A2 n2 c2) (ints .u8 bs), .snap B5 w5, .blk g7 27 (ints .u8 key)]) [8, 10] [13]
            (fun iK u E => match iK with
              | 8 => u = .agg (ints .u8 RT).toArray ∧ E = []
              | 10 => u = .agg (ints .u8 D).toArray ∧ E = []
              | _ => False)
            ([ZD g8]) (by kernel_rfl) (by kernel_rfl) hS ?_
          show wpS _ _ _ _ _ _ _ _ _ _ [0, 1, 2, 3, 4, 5, 6, 7, 8, 9, 10, 11, 12, 13, 14] _
          apply wpS_read (i := 0) rfl rfl ⟨_, (HS.drop2 (E := [ZD g8]) (L := [.oa 30 32 (.slice A1 n1 c1) (rowsOf hs), .os 5 (.slice A2 n2 c2) (ints .u8 bs), .snap B5 w5, .blk g7 27 (ints .u8 key)]) hS)⟩ rfl
          · intro w' hT'
            simp only [getElem_toArray, getElem_cons_zero, getElem_cons_succ]
            go_wp2_with fail
            first | exact ⟨rfl, rfl, rfl⟩ | rfl
          apply wpS_read (i := 1) rfl rfl ⟨_, (HS.drop2 (E := [ZD g8]) (L := [.oa 30 32 (.slice A1 n1 c1) (rowsOf hs), .os 5 (.slice A2 n2 c2) (ints .u8 bs), .snap B5 w5, .blk g7 27 (ints .u8 key)]) hS)⟩ rfl
          · intro w' hT'
            simp only [getElem_toArray, getElem_cons_zero, getElem_cons_succ]
            go_wp2_with fail
            first | exact ⟨rfl, rfl, rfl⟩ | rfl
          apply wpS_read (i := 2) rfl rfl ⟨_, (HS.drop2 (E := [ZD g8]) (L := [.oa 30 32 (.slice A1 n1 c1) (rowsOf hs), .os 5 (.slice A2 n2 c2) (ints .u8 bs), .snap B5 w5, .blk g7 27 (ints .u8 key)]) hS)⟩ rfl
          · intro w' hT'
            simp only [getElem_toArray, getElem_cons_zero, getElem_cons_succ]
            go_wp2_with fail
            first | exact ⟨rfl, rfl, rfl⟩ | rfl
          apply wpS_read (i := 3) rfl rfl ⟨_, (HS.drop2 (E := [ZD g8]) (L := [.oa 30 32 (.slice A1 n1 c1) (rowsOf hs), .os 5 (.slice A2 n2 c2) (ints .u8 bs), .snap B5 w5, .blk g7 27 (ints .u8 key)]) hS)⟩ rfl
          · intro w' hT'
            simp only [getElem_toArray, getElem_cons_zero, getElem_cons_succ]
            go_wp2_with (first
              | (refine hs_loadW hT' 3 rfl rfl 27 _ rfl rfl 32 infoKeyS (by simp [HK.out]) _ arrKeyS rfl _ rfl ?_)
              | (refine build_to rfl 32 _ rfl (descC id m q key RT D).toArray (by rw [Array.toList_map]; exact builtDesc _ _ _ _ _ _ HK.out HRT.out.1 HSL.out) ?_)
              | fail)
            first | exact ⟨rfl, rfl, rfl⟩ | rfl
          apply wpS_read (i := 4) rfl rfl ⟨_, (HS.drop2 (E := [ZD g8]) (L := [.oa 30 32 (.slice A1 n1 c1) (rowsOf hs), .os 5 (.slice A2 n2 c2) (ints .u8 bs), .snap B5 w5, .blk g7 27 (ints .u8 key)]) hS)⟩ rfl
          · intro w' hT'
            simp only [getElem_toArray, getElem_cons_zero, getElem_cons_succ]
            go_wp2_with fail
            first | exact ⟨rfl, rfl, rfl⟩ | rfl
          apply wpS_read (i := 5) rfl rfl ⟨_, (HS.drop2 (E := [ZD g8]) (L := [.oa 30 32 (.slice A1 n1 c1) (rowsOf hs), .os 5 (.slice A2 n2 c2) (ints .u8 bs), .snap B5 w5, .blk g7 27 (ints .u8 key)]) hS)⟩ rfl
          · intro w' hT'
            simp only [getElem_toArray, getElem_cons_zero, getElem_cons_succ]
            go_wp2_with (first
              | (refine hs_loadW hT' 3 rfl rfl 27 _ rfl rfl 32 infoKeyS (by simp [HK.out]) _ arrKeyS rfl _ rfl ?_)
              | (refine build_to rfl 32 _ rfl (descC id m q key RT D).toArray (by rw [Array.toList_map]; exact builtDesc _ _ _ _ _ _ HK.out HRT.out.1 HSL.out) ?_)
              | fail)
            first | exact ⟨rfl, rfl, rfl⟩ | rfl
          apply wpS_read (i := 6) rfl rfl ⟨_, (HS.drop2 (E := [ZD g8]) (L := [.oa 30 32 (.slice A1 n1 c1) (rowsOf hs), .os 5 (.slice A2 n2 c2) (ints .u8 bs), .snap B5 w5, .blk g7 27 (ints .u8 key)]) hS)⟩ rfl
          · intro w' hT'
            simp only [getElem_toArray, getElem_cons_zero, getElem_cons_succ]
            go_wp2_with (first
              | (refine hs_loadW hT' 3 rfl rfl 27 _ rfl rfl 32 infoKeyS (by simp [HK.out]) _ arrKeyS rfl _ rfl ?_)
              | (refine build_to rfl 32 _ rfl (descC id m q key RT D).toArray (by rw [Array.toList_map]; exact builtDesc _ _ _ _ _ _ HK.out HRT.out.1 HSL.out) ?_)
              | fail)
            first | exact ⟨rfl, rfl, rfl⟩ | rfl
          apply wpS_read (i := 7) rfl rfl ⟨_, (HS.drop2 (E := [ZD g8]) (L := [.oa 30 32 (.slice A1 n1 c1) (rowsOf hs), .os 5 (.slice A2 n2 c2) (ints .u8 bs), .snap B5 w5, .blk g7 27 (ints .u8 key)]) hS)⟩ rfl
          · intro w' hT'
            simp only [getElem_toArray, getElem_cons_zero, getElem_cons_succ]
            go_wp2_with fail
            first | exact ⟨rfl, rfl, rfl⟩ | rfl
          refine wpS_soft (i := 8) rfl rfl rfl (Nat.le_of_ble_eq_true rfl) ?_ ?_
          · intro w' hT
            simp only [getElem_toArray, getElem_cons_zero, getElem_cons_succ]
            go_wp2_with (first
              | (go_at_call 18; refine (root16_calls j hs A1 n1 c1 _ (ownA_hrd (hT.oa 0 rfl)).2.1.symm (by rw [(ownA_hrd (hT.oa 0 rfl)).2.1, hHL.out]; omega) (ownA_hrd (hT.oa 0 rfl)).1 hH32.out (ownA_hrd (hT.oa 0 rfl)).2.2 (by rw [(ownA_hrd (hT.oa 0 rfl)).2.1, hHL.out]; omega)).mono ?_; rintro e w6 ⟨rfl, hB6⟩; rw [HRF.out])
              | fail)
            exact SoftP.mk' (.agg (ints .u8 RT).toArray) ([]) rfl (⟨rfl, rfl⟩) (hT.below hB6) (hB6) (fun _ h => by cases h)
          intro u8 E8 hK8
          obtain ⟨rfl, rfl⟩ := hK8
          simp only [Act.put, List.setIfInBounds_toArray, List.set_cons_zero, List.set_cons_succ]
          apply wpS_read (i := 9) rfl rfl ⟨_, (HS.drop2 (E := [ZD g8]) (L := [.oa 30 32 (.slice A1 n1 c1) (rowsOf hs), .os 5 (.slice A2 n2 c2) (ints .u8 bs), .snap B5 w5, .blk g7 27 (ints .u8 key)]) hS)⟩ rfl
          · intro w' hT'
            simp only [getElem_toArray, getElem_cons_zero, getElem_cons_succ]
            go_wp2_with fail
            first | exact ⟨rfl, rfl, rfl⟩ | rfl
          refine wpS_soft (i := 10) rfl rfl rfl (Nat.le_of_ble_eq_true rfl) ?_ ?_
          · intro w' hT
            simp only [getElem_toArray, getElem_cons_zero, getElem_cons_succ]
            go_wp2_with (first
              | (go_at_call 13; refine (sum1_calls bs A2 n2 c2 _ (by have := (hT.os 1 rfl).len.1; rw [ints_length] at this; omega) ((hT.os 1 rfl).rd rfl) HB8.out (by have := (hT.os 1 rfl).len.1; rw [ints_length] at this; have := HBZ.out; omega)).mono ?_; rintro e w6 ⟨rfl, hB6⟩; rw [hD.out])
              | fail)
            exact SoftP.mk' (.agg (ints .u8 D).toArray) ([]) rfl (⟨rfl, rfl⟩) (hT.below hB6) (hB6) (fun _ h => by cases h)
          intro u10 E10 hK10
          obtain ⟨rfl, rfl⟩ := hK10
          simp only [Act.put, List.setIfInBounds_toArray, List.set_cons_zero, List.set_cons_succ]
          apply wpS_read (i := 11) rfl rfl ⟨_, (HS.drop2 (E := [ZD g8]) (L := [.oa 30 32 (.slice A1 n1 c1) (rowsOf hs), .os 5 (.slice A2 n2 c2) (ints .u8 bs), .snap B5 w5, .blk g7 27 (ints .u8 key)]) hS)⟩ rfl
          · intro w' hT'
            simp only [getElem_toArray, getElem_cons_zero, getElem_cons_succ]
            go_wp2_with (first
              | (refine hs_loadW hT' 3 rfl rfl 27 _ rfl rfl 32 infoKeyS (by simp [HK.out]) _ arrKeyS rfl _ rfl ?_)
              | (refine build_to rfl 32 _ rfl (descC id m q key RT D).toArray (by rw [Array.toList_map]; exact builtDesc _ _ _ _ _ _ HK.out HRT.out.1 HSL.out) ?_)
              | fail)
            first | exact ⟨rfl, rfl, rfl⟩ | rfl
          apply wpS_read (i := 12) rfl rfl ⟨_, (HS.drop2 (E := [ZD g8]) (L := [.oa 30 32 (.slice A1 n1 c1) (rowsOf hs), .os 5 (.slice A2 n2 c2) (ints .u8 bs), .snap B5 w5, .blk g7 27 (ints .u8 key)]) hS)⟩ rfl
          · intro w' hT'
            simp only [getElem_toArray, getElem_cons_zero, getElem_cons_succ]
            go_wp2_with fail
            first | exact ⟨rfl, rfl, rfl⟩ | rfl
          refine wpS_hard (i := 13) rfl rfl ?_
          intro w13 hT
          replace hT : HS NoF w w13 [ZD g8, .oa 30 32 (.slice A1 n1 c1) (rowsOf hs), .os 5 (.slice A2 n2 c2) (ints .u8 bs), .snap B5 w5, .blk g7 27 (ints .u8 key)] := hT
          simp only [getElem_toArray, getElem_cons_zero, getElem_cons_succ]
          go_wp2_with (first
            | (refine hs_storeW hT 0 rfl rfl 32 _ _ rfl rfl (descC id m q key RT D) rfl (descC_one _ _ _ _ _ _) 99 sizeDesc (descC_length HK.out HRT.out.1 HSL.out) zeroD_length _ rfl ?_; clear hT; intro w9 hT)
            | fail)
          refine HardP.mk' ([.blk g8 32 (descC id m q key RT D)]) rfl ?_ ?_
          · exact hT
          clear hT
          apply wpS_read (i := 14) rfl rfl ⟨_, (HS.drop2 (E := [ZD g8]) (L := [.oa 30 32 (.slice A1 n1 c1) (rowsOf hs), .os 5 (.slice A2 n2 c2) (ints .u8 bs), .snap B5 w5, .blk g7 27 (ints .u8 key)]) hS)⟩ rfl
          · intro w' hT'
            simp only [getElem_toArray, getElem_cons_zero, getElem_cons_succ]
            go_wp2_with fail
            first | exact ⟨rfl, rfl, rfl⟩ | rfl
          refine wpS_end ?_
          intro wz hT
          try dsimp only
          clear hS
          have hS : HS NoF w wz [.blk g8 32 (descC id m q key RT D), .oa 30 32 (.slice A1 n1 c1) (rowsOf hs), .os 5 (.slice A2 n2 c2) (ints .u8 bs), .snap B5 w5, .blk g7 27 (ints .u8 key)] := hT
          clear hT
          go_wp2_with fail
          refine bodyPost_ret (results_str2 rfl _ _ g8 _ _ (.slice A2 n2 c2) _ rfl rfl (hS.blk 0 rfl) Tryd.underlying32 (by rw [descC_length HK.out HRT.out.1 HSL.out]; exact sizeDesc)) rfl ⟨_, by rw [hts.out, hRT.out, hbs.out, hD.out], by rw [hts.out, hbs.out]; exact hS.os 2 rfl, fun k hk => (hS.own _ (List.mem_of_getElem? (i := 2) rfl) k hk).resolve_left (fun h => h), hS.bel⟩
end Go.Proofs.YtlikinglgegclaaDoor
/- A row's cells by their places; how long a blob is. -/
namespace Go.Proofs.YtlikinglgegclaaDoor
open Go.RowKit Go.Cour
theorem rowC_get (id kind state : Int) (D : List Value) (blob down : Value) (u0 u1 u2 u3 : Int) (h : D.length = 99) (R : List Value) (hR : rowC id kind state D blob [.int .i64 u0, .int .i64 u1, .int .i64 u2, .int .i64 u3] down = R) :
    R.length = 108 ∧ R[0]? = some (.int .i64 id) ∧ R[1]? = some (.int .i64 kind) ∧ R[2]? = some (.int .i64 state) ∧ R[3]? = D[0]? ∧ R[4]? = D[1]? ∧ R[5]? = D[2]? ∧ R[102]? = some blob ∧ R[104]? = some (.int .i64 u1) ∧ R[107]? = some down := by
  subst hR
  unfold rowC
  refine ⟨by simp [h], rfl, rfl, rfl, ?_, ?_, ?_, ?_, ?_, ?_⟩ <;> simp [List.getElem?_append, h]
theorem blobOf_len {ts : List (List Int)} (h6 : ts.length ≤ 600) (h : ∀ X ∈ ts, X.length ≤ 80) (h1 : 1 ≤ ts.length) : 0 < (blobOf ts).length ∧ (blobOf ts).length ≤ 100000 := by
  have e1 : ∀ l : List (List Int), (l.map leafOf).flatten.length = 32 * l.length := fun l => by
    induction l with
    | nil => simp
    | cons x l ih => simp only [List.map_cons, List.flatten_cons, List.length_append, leafOf_length, ih, List.length_cons]; omega
  have e2 := flat_le h
  unfold blobOf hashesOf
  rw [List.length_append, e1]
  have e3 := Nat.mul_le_mul_left 80 h6
  omega
end Go.Proofs.YtlikinglgegclaaDoor
