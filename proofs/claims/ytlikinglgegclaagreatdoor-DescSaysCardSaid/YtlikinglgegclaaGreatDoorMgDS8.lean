import Derived.ArgAppend
import Derived.Test.YtlikinglgegclaaGreatDoorProg
import Derived.Test.YtlikinglgegclaaGreatDoorMgDS0
import Derived.Test.YtlikinglgegclaaGreatDoorMgDS1
import Derived.Test.YtlikinglgegclaaGreatDoorMgDS2
import Derived.Test.YtlikinglgegclaaGreatDoorMgDS3
import Derived.Test.YtlikinglgegclaaGreatDoorMgDS4
import Derived.Test.YtlikinglgegclaaGreatDoorMgDS5
import Derived.Test.YtlikinglgegclaaGreatDoorMgDS6
import Derived.Test.YtlikinglgegclaaGreatDoorMgDS7
set_option linter.unusedSimpArgs false
set_option linter.unusedVariables false
open List (getElem_toArray getElem_cons_zero getElem_cons_succ)
/- Slices of one's own, wherever they begin in their block: read, cut, appended to, written. -/
namespace Go.Cour
open Go.RowKit
/-- The slice value v, of the cells cs, is one's own. -/
def OwnS (w : World) (e : TypeId) (v : Value) (cs : List Value) : Prop :=
  (v = .slice none 0 0 ∧ cs = []) ∨ ∃ g off c cur, v = .slice (some ⟨g, off, none⟩) cs.length c ∧ w.heap[g]? = some (.cells cur e (0, 0)) ∧ cs.length ≤ c ∧ off + c ≤ cur.size ∧ c ≤ maxLen ∧ ∀ j u, cs[j]? = some u → cur[off + j]? = some u
section
variable {w w' : World} {e : TypeId} {v v' : Value} {cs : List Value}
theorem OwnS.nil (w : World) (e : TypeId) : OwnS w e (.slice none 0 0) [] := .inl ⟨rfl, rfl⟩
theorem OwnS.lt (h : OwnS w e v cs) (j : Nat) (hj : v.ownBlock = some j) : j < w.heap.size := by
  rcases h with ⟨rfl, _⟩ | ⟨g, off, c, cur, rfl, hh, _⟩
  · simp [Value.ownBlock] at hj
  · have : g = j := by simpa [Value.ownBlock] using hj
    subst this
    exact (Array.getElem?_eq_some_iff.1 hh).1
theorem OwnS.kept (h : OwnS w e v cs) (hk : ∀ j, v.ownBlock = some j → w'.heap[j]? = w.heap[j]?) : OwnS w' e v cs := by
  rcases h with h | ⟨g, off, c, cur, rfl, hh, r⟩
  · exact .inl h
  · exact .inr ⟨g, off, c, cur, rfl, (hk g rfl).trans hh, r⟩
theorem OwnS.below (h : OwnS w e v cs) (hb : Below w.heap.size w w') : OwnS w' e v cs := h.kept fun j hj => hb.block j (h.lt j hj)
theorem OwnS.parts (h : OwnS w e v cs) : ∃ A c, v = .slice A cs.length c ∧ cs.length ≤ c ∧ c ≤ maxLen ∧ (A = none → c = 0) ∧ (∀ a, A = some a → v.ownBlock = some a.block) ∧ ∀ j u, cs[j]? = some u → ∃ g off, A = some ⟨g, off, none⟩ ∧ w.cell? ⟨g, off + j, none⟩ = some u := by
  rcases h with ⟨rfl, rfl⟩ | ⟨g, off, c, cur, rfl, hh, h1, h2, h3, h4⟩
  · exact ⟨none, 0, rfl, Nat.le_refl _, by unfold maxLen; omega, fun _ => rfl, fun a ha => (by cases ha), fun j u hu => by simp at hu⟩
  · exact ⟨_, c, rfl, h1, h3, (fun ha => by cases ha), (fun a ha => by injection ha with ha; subst ha; rfl), fun j u hu => ⟨g, off, rfl, by rw [cell_of_row w g _ cur e (0, 0) hh]; exact h4 j u hu⟩⟩
theorem OwnS.ofRow {b : Nat} (h : w.ownsRow b e 1 v cs.length cs) : OwnS w e v cs := by
  obtain ⟨h1, ⟨rfl, h2⟩ | ⟨g, cap, cur, rfl, hg, hh, hn, hm, hs, ht⟩⟩ := h
  · exact .inl ⟨rfl, List.eq_nil_of_length_eq_zero h2⟩
  · refine .inr ⟨g, 0, cap, cur, rfl, hh, hn, by omega, hm, fun j u hu => ?_⟩
    rw [← ht, Nat.mul_one, List.getElem?_take] at hu
    split at hu
    · simpa using hu
    · cases hu
theorem Own.os {b : Nat} {k : IntKind} {xs : List Int} (h : Own w b e k v xs) : OwnS w e v (ints k xs) := OwnS.ofRow (b := b) (by
  have : xs.length = (ints k xs).length := by simp
  unfold Own at h
  rwa [this] at h)
theorem OwnV.os {b : Nat} (h : OwnV w b e v cs) : OwnS w e v cs := OwnS.ofRow h
theorem OwnS.ofBlk {g : Nat} (h : Blk w g e cs) (hm : cs.length ≤ maxLen) : OwnS w e (.slice (some ⟨g, 0, none⟩) cs.length cs.length) cs :=
  .inr ⟨g, 0, cs.length, cs.toArray, rfl, h, Nat.le_refl _, by simp, hm, fun j u hu => by simpa using hu⟩
/-- It reads as numbers. -/
theorem OwnS.rd {k : IntKind} {xs : List Int} (h : OwnS w e v (ints k xs)) {A : Option Addr} {n c : Nat} (hv : v = .slice A n c) : Rd w A k xs := by
  rcases h with ⟨rfl, h⟩ | ⟨g, off, c', cur, rfl, hh, h1, h2, h3, h4⟩
  · left; simpa [ints] using h
  · injection hv with hv
    subst hv
    exact .inr ⟨g, off, rfl, fun i hi => by rw [cell_of_row w g _ cur e (0, 0) hh]; exact h4 i _ (ints_get k xs i hi)⟩
theorem OwnS.len {A : Option Addr} {n c : Nat} (h : OwnS w e (.slice A n c) cs) : n = cs.length ∧ n ≤ c ∧ c ≤ maxLen ∧ (A = none → c = 0) := by
  obtain ⟨A', c', hv, h1, h2, h3, _⟩ := h.parts
  injection hv with hv1 hv2 hv3
  subst hv1 hv2 hv3
  exact ⟨rfl, h1, h2, h3⟩
theorem OwnS.cut {A : Option Addr} {n c : Nat} (h : OwnS w e (.slice A n c) cs) (f : Nat) (hf : f ≤ n) : OwnS w e (.slice (cutA A c f) (n - f) (c - f)) (cs.drop f) := by
  rcases h with ⟨hv, rfl⟩ | ⟨g, off, c', cur, hv, hh, h1, h2, h3, h4⟩
  · injection hv with hv1 hv2 hv3
    subst hv1 hv2 hv3
    obtain rfl : f = 0 := by omega
    exact .inl ⟨by simp [cutA], by simp⟩
  · injection hv with hv1 hv2 hv3
    subst hv1 hv2 hv3
    unfold cutA
    by_cases hc : c = f
    · rw [if_pos hc]
      refine .inr ⟨g, off, c - f, cur, by simp, hh, by simp; omega, by omega, by omega, fun j u hu => ?_⟩
      rw [List.getElem?_drop] at hu
      have := (List.getElem?_eq_some_iff.1 hu).1
      omega
    · rw [if_neg hc]
      refine .inr ⟨g, off + f, c - f, cur, by simp [add_lit], hh, by simp; omega, by omega, by omega, fun j u hu => ?_⟩
      rw [List.getElem?_drop] at hu
      rw [Nat.add_assoc]
      exact h4 _ _ hu
theorem cutA_own {A : Option Addr} {c f n m n' c' : Nat} (j : Nat) (h : (Value.slice (cutA A c f) n m).ownBlock = some j) : (Value.slice A n' c').ownBlock = some j := by
  unfold cutA at h
  split at h
  · cases A with
    | none => simp [Value.ownBlock] at h
    | some a => simpa [Value.ownBlock] using h
  · cases A with
    | none => simp [Value.ownBlock] at h
    | some a => simp [Value.ownBlock] at h ⊢; rw [← h]; simp [Addr.add]; split <;> rfl
/-- A place of it written. -/
theorem OwnS.set (h : OwnS w e v cs) {g off n c : Nat} (hv : v = .slice (some ⟨g, off, none⟩) n c) (j : Nat) (u : Value) (hj : j < cs.length) : OwnS (w.setCell ⟨g, off + j, none⟩ u) e v (cs.set j u) := by
  rcases h with ⟨rfl, rfl⟩ | ⟨g', off', c', cur, hv', hh, h1, h2, h3, h4⟩
  · simp at hj
  · rw [hv] at hv'
    injection hv' with hv1 hv2 hv3
    injection hv1 with hv1
    injection hv1 with hv1 hv4
    subst hv1 hv2 hv3 hv4
    refine .inr ⟨g, off, c, cur.setIfInBounds (off + j) u, by rw [hv, List.length_set], heap_setCell_same w g (off + j) cur e _ hh, by simpa using h1, by simpa using h2, h3, fun i x hx => ?_⟩
    by_cases hij : j = i
    · subst hij
      rw [List.getElem?_set_self hj] at hx
      rw [Array.getElem?_setIfInBounds]
      simp [← hx]; omega
    · rw [List.getElem?_set_ne hij] at hx
      rw [Array.getElem?_setIfInBounds_ne (by omega)]
      exact h4 i x hx
theorem OwnS.frozen (h : OwnS w e v cs) {g off n c : Nat} (hv : v = .slice (some ⟨g, off, none⟩) n c) (j : Nat) : w.frozen? ⟨g, j, none⟩ = false := by
  rcases h with ⟨rfl, rfl⟩ | ⟨g', off', c', cur, hv', hh, _⟩
  · cases hv
  · rw [hv] at hv'
    injection hv' with hv1
    injection hv1 with hv1
    injection hv1 with hv1
    subst hv1
    simp [World.frozen?, hh]
end
def Ent.os (e : TypeId) (v : Value) (cs : List Value) : Ent where
  F := fun j => v.ownBlock = some j
  p := fun w => OwnS w e v cs
  lt := fun h j hj => h.lt j hj
  kept := fun h hk => h.kept hk
section
variable {P : Program} {w w0 : World} {F : Nat → Prop} {L : List Ent}
theorem HS.os (h : HS F w0 w L) (i : Nat) {t : TypeId} {v : Value} {cs : List Value} (hi : L[i]? = some (.os t v cs)) : OwnS w t v cs := h.mem.get hi
/-- append, whatever lies behind the slice. -/
theorem run_append_os (t ty e : TypeId) (bytes : Nat) (ht : P.underlying t = some (.slice e)) (hi : (P.info? e).map (fun i => (i.size, i.bytes)) = some (1, bytes)) (hz : (((P.info? e).bind (·.zero)).map (·.cells.size)) = some 1)
    (v : Value) (cs : List Value) (hown : OwnS w e v cs) (A : Option Addr) (m c : Nat) (news : List Value) (hl : news.length = m) (hnews : ∀ j u, news[j]? = some u → ∃ ad, A = some ad ∧ w.cell? (ad.add j) = some u) (h1 : ∀ u ∈ news, u.oneCell' = true)
    (hbytes : (cs.length + m) * bytes ≤ 140737488355328) (h63 : cs.length + m ≤ 140737488355328) :
    ∃ v' w', (Builtin.append_ #[t, t] ty #[v, .slice A m c]).run P w = .ok v' w' ∧ OwnS w' e v' (cs ++ news) ∧ Upd (fun j => v.ownBlock = some j) w w' ∧ ∀ k, v'.ownBlock = some k → v.ownBlock = some k ∨ w.heap.size ≤ k := by
  obtain ⟨i, hi0, hi1, hi2⟩ : ∃ i, P.info? e = some i ∧ i.size = 1 ∧ i.bytes = bytes := by
    cases hq : P.info? e with
    | none => simp [hq] at hi
    | some i => simp [hq] at hi; exact ⟨i, rfl, hi.1, hi.2⟩
  obtain ⟨z, hz0, hz1⟩ : ∃ z, i.zero = some z ∧ z.cells.size = 1 := by
    cases hq : i.zero with
    | none => simp [hi0, hq] at hz
    | some z => simp [hi0, hq] at hz; exact ⟨z, rfl, hz⟩
  by_cases hm : m = 0
  · have hnil : news = [] := List.eq_nil_of_length_eq_zero (by omega)
    subst hnil hm
    refine ⟨v, w, ?_, by simpa using hown, Upd.refl _ _, fun k hk => .inl hk⟩
    have hr : ∀ (B : Option Addr) (n cap : Nat), n ≤ cap → v = .slice B n cap → (B = none → cap = 0) → (Builtin.append_ #[t, t] ty #[.slice B n cap, .slice A 0 c]).run P w = .ok (.slice B n cap) w := fun B n cap hnc hv hB => by
      cases B with
      | none =>
        have := hB rfl
        obtain rfl : n = 0 := by omega
        cases A <;> simp [Builtin.append_, run_underlying ht, sizeOf, typeInfo, hi0, Builtin.lenOf, Builtin.firstCells, loadCells, loadCellsFrom]
      | some b => cases A <;> simp [Builtin.append_, run_underlying ht, sizeOf, typeInfo, hi0, Builtin.lenOf, hnc, Builtin.firstCells, loadCells, loadCellsFrom, storeCells]
    obtain ⟨B, cap, hv, hnc, _, hB, _⟩ := hown.parts
    rw [hv]; exact hr B cs.length cap hnc hv hB
  · obtain ⟨ad, rfl⟩ : ∃ ad, A = some ad := by
      cases news with
      | nil => simp at hl; omega
      | cons u us => obtain ⟨ad, h, _⟩ := hnews 0 u (by simp); exact ⟨ad, h⟩
    have hnews' : ∀ j u, news[j]? = some u → w.cell? (ad.add j) = some u := fun j u hu => by
      obtain ⟨ad', h, h2⟩ := hnews j u hu
      injection h with h; subst h; exact h2
    rcases hown with ⟨rfl, rfl⟩ | ⟨g, off, cap, cur, rfl, hh, hn, hfit, hcm, hcs⟩
    · have hr := run_append_nil (P := P) w t ty e i z ht hi0 hz0 ad m c news (by rw [hl, hi1, Nat.mul_one]) hnews' (by omega) (by omega) (by rw [hi2]; simp at hbytes; omega)
      refine ⟨_, _, hr, ?_, Upd.of_below ((below_drewN (Below.refl w.heap.size w) 1).alloc (Nat.le_refl _) _) _, fun k hk => .inr ?_⟩
      · refine .inr ⟨w.heap.size, 0, _, _, by rw [List.nil_append, hl], heap_alloc_new w.drew _, ?_, ?_, grownCap_le_maxLen w m 0 e (by unfold maxLen; simp at h63; omega), fun j u hu => ?_⟩
        · rw [List.nil_append, hl]; exact grownCap_ge w m 0 e
        · have := grownCap_ge w m 0 e
          simp only [Array.size_append, List.size_toArray, size_zeroCells, hz1, hl]; omega
        · rw [List.nil_append] at hu
          have hlt := (List.getElem?_eq_some_iff.1 hu).1
          rw [Nat.zero_add, Array.getElem?_append_left (by simpa using hlt)]
          simpa using hu
      · have : w.heap.size = k := by simpa [Value.ownBlock] using hk
        omega
    · have holds : ∀ j u, cs[j]? = some u → w.cell? ((⟨g, off, none⟩ : Addr).add j) = some u := fun j u hu => by
        rw [add_lit, cell_of_row w g _ cur e (0, 0) hh]; exact hcs j u hu
      by_cases hroom : cs.length + m ≤ cap
      · have hr := run_append_room_cells (P := P) w t ty e i ht hi0 g off cs.length cap ad m c news (by rw [hl, hi1, Nat.mul_one]) hnews' h1 hroom
          (fun j hj => by rw [hi1, Nat.mul_one, cell_of_row w g _ cur e (0, 0) hh, Array.getElem?_eq_getElem (by omega)]; rfl)
          (fun j hj => by simp [World.frozen?, hh])
        rw [hi1, Nat.mul_one] at hr
        refine ⟨_, _, hr, ?_, (setCells_upd news w _).mono fun k _ hk => by simp [Value.ownBlock]; exact hk.symm, fun k hk => .inl (by simpa [Value.ownBlock] using hk)⟩
        have hb : Blk w g e cur.toList := by unfold Blk; simpa using hh
        have hb2 := setCells_blk news (off + cs.length) hb (by simp; omega)
        refine .inr ⟨g, off, cap, _, by rw [List.length_append, hl], hb2, by rw [List.length_append]; omega, by simp; omega, hcm, fun j u hu => ?_⟩
        rw [List.getElem?_append] at hu
        simp only [List.getElem?_toArray]
        rw [List.append_assoc]
        split at hu
        · rename_i hlt
          rw [List.getElem?_append_left (by simp; omega), List.getElem?_take, if_pos (by omega)]
          simpa using hcs j u hu
        · rename_i hge
          have hlt := (List.getElem?_eq_some_iff.1 hu).1
          rw [List.getElem?_append_right (by simp; omega), List.getElem?_append_left (by simp; omega)]
          rw [← hu]; congr 1; simp; omega
      · have hr := run_append_grow (P := P) w t ty e i z ht hi0 hz0 ⟨g, off, none⟩ cs.length cap cs (by rw [hi1, Nat.mul_one]) holds ad m c news (by rw [hl, hi1, Nat.mul_one]) hnews' (by omega) (by omega) (growslice_fits (by omega) (by rw [hi2]; exact hbytes))
        refine ⟨_, _, hr, ?_, Upd.of_below ((below_drewN (Below.refl w.heap.size w) 1).alloc (Nat.le_refl _) _) _, fun k hk => .inr ?_⟩
        · refine .inr ⟨w.heap.size, 0, _, _, by rw [List.length_append, hl], heap_alloc_new w.drew _, ?_, ?_, grownCap_le_maxLen w _ cap e (by unfold maxLen; omega), fun j u hu => ?_⟩
          · rw [List.length_append, hl]; exact grownCap_ge w _ cap e
          · have := grownCap_ge w (cs.length + m) cap e
            simp only [Array.size_append, List.size_toArray, size_zeroCells, hz1, hl]; omega
          · have hlt := (List.getElem?_eq_some_iff.1 hu).1
            rw [Nat.zero_add, Array.getElem?_append_left (by simpa using hlt)]
            simpa using hu
        · have : w.heap.size = k := by simpa [Value.ownBlock] using hk
          omega
end
section
variable {P : Program} {ops : Array Oper} {rest : List Oper} {o : Oper} {a : Act} {w w0 : World} {Q : Exit → Act → World → Prop} {F : Nat → Prop} {L : List Ent}
theorem hs_append (hS : HS F w0 w L) (i : Nat) {e : TypeId} {v : Value} {cs : List Value} (hi : L[i]? = some (.os e v cs)) (hw : Region.wanted o (yielded ops a.tmps) = true) (s x : Operand) (t : TypeId)
    (ho : o.op = .call { callee := .builtin .append, args := #[s, x], argTypes := #[t, t] }) (bytes : Nat) (ht : P.underlying t = some (.slice e)) (hf : (P.info? e).map (fun i => (i.size, i.bytes)) = some (1, bytes)) (hz : (((P.info? e).bind (·.zero)).map (·.cells.size)) = some 1)
    (hs : a.eval s = v) (A : Option Addr) (m c : Nat) (hx : a.eval x = .slice A m c) (news : List Value) (hl : news.length = m) (hnews : ∀ j u, news[j]? = some u → ∃ ad, A = some ad ∧ w.cell? (ad.add j) = some u) (h1 : ∀ u ∈ news, u.oneCell' = true)
    (hbytes : (cs.length + m) * bytes ≤ 140737488355328) (h63 : cs.length + m ≤ 140737488355328) (d : Option Tmp) (hd : o.dst = d)
    (h : ∀ A' n' c' w', (cs ++ news).length = n' → n' ≤ c' → (A' = none → c' = 0) → HS F w0 w' (L.set i (.os e (.slice A' n' c') (cs ++ news))) → wpList P ops Q rest (a.put d (.slice A' n' c')) w') : wpList P ops Q (o :: rest) a w := by
  subst hd
  refine wpList_step fun K hK => ?_
  rw [if_pos hw]
  obtain ⟨v', w', hrun, ho', hu, hb⟩ := run_append_os (P := P) t o.type e bytes ht hf hz v cs (hS.os i hi) A m c news hl hnews h1 hbytes h63
  unfold Oper.wp execOp
  simp only [ho, resolve, invoke, builtin]
  simp [hs, hx, hrun]
  obtain ⟨A', c', rfl, h5, _, h6, _⟩ := ho'.parts
  exact hK _ _ (h A' _ c' w' rfl h5 h6 (hS.upd1 i hi hu _ ho' hb))
end
/-- An empty literal. -/
theorem hs_empty {P : Program} {ops : Array Oper} {rest : List Oper} {o : Oper} {a : Act} {w w0 : World} {Q : Exit → Act → World → Prop} {F : Nat → Prop} {L : List Ent} (hS : HS F w0 w L) (hw : Region.wanted o (yielded ops a.tmps) = true) (t e : TypeId) (ho : o.op = .buildSlice t 0 #[])
    (hu : P.underlying t = some (.slice e)) (hz : ((P.info? e).bind (·.zero)).isSome = true) (d : Option Tmp) (hd : o.dst = d)
    (h : ∀ g w', w.heap.size = g → Below w.heap.size w w' → HS F w0 w' (.os e (.slice (some ⟨g, 0, none⟩) 0 0) [] :: L) → wpList P ops Q rest (a.put d (.slice (some ⟨g, 0, none⟩) 0 0)) w') : wpList P ops Q (o :: rest) a w := by
  subst hd
  have hB : Below w.heap.size w (w.alloc (.cells (#[] : Array Value) e)) := (Below.refl _ _).alloc (Nat.le_refl _) _
  have hb : Blk (w.alloc (.cells (#[] : Array Value) e)) w.heap.size e [] := Blk.new w e []
  have h1 := h w.heap.size _ rfl hB (hS.push hB (.os e (.slice (some ⟨w.heap.size, 0, none⟩) 0 0) []) (OwnS.ofBlk hb (Nat.zero_le _)) (fun k hk => Nat.le_of_eq (by simpa [Ent.os, Value.ownBlock] using hk)))
  cases hie : P.info? e with
  | none => simp [hie] at hz
  | some ie =>
    refine wpList_step fun K hK => ?_
    rw [if_pos hw]
    have hrun : (Instr.buildSlice t 0 #[]).run P w = .ok (.slice (some ⟨w.heap.size, 0, none⟩) 0 0) (w.alloc (.cells (#[] : Array Value) e)) := by
      have e0 : ∀ f : Nat → Value, Array.map f (Array.range 0) = #[] := fun f => Array.eq_empty_of_size_eq_zero (by simp)
      simp [Instr.buildSlice, run_underlying hu, sizeOf, typeInfo, hie, Instr.fill, newRow, e0]
    unfold Oper.wp execOp
    simp [ho, hrun]
    exact hK _ _ h1
/-- A literal of one. -/
theorem hs_one {P : Program} {ops : Array Oper} {rest : List Oper} {o : Oper} {a : Act} {w w0 : World} {Q : Exit → Act → World → Prop} {F : Nat → Prop} {L : List Ent} (hS : HS F w0 w L) (hw : Region.wanted o (yielded ops a.tmps) = true) (t e : TypeId) (x : Operand) (ho : o.op = .buildSlice t 1 #[(0, x)])
    (hu : P.underlying t = some (.slice e)) (hf : (P.info? e).map (·.size) = some 1) (hz : (((P.info? e).bind (·.zero)).map (·.cells.size)) = some 1) (v : Value) (hv : a.eval x = v) (h1 : v.oneCell' = true) (d : Option Tmp) (hd : o.dst = d)
    (h : ∀ g w', w.heap.size = g → Below w.heap.size w w' → HS F w0 w' (.os e (.slice (some ⟨g, 0, none⟩) 1 1) [v] :: L) → wpList P ops Q rest (a.put d (.slice (some ⟨g, 0, none⟩) 1 1)) w') : wpList P ops Q (o :: rest) a w := by
  subst hd
  have hB : Below w.heap.size w (w.alloc (.cells (#[v] : Array Value) e)) := (Below.refl _ _).alloc (Nat.le_refl _) _
  have hb : Blk (w.alloc (.cells (#[v] : Array Value) e)) w.heap.size e [v] := Blk.new w e [v]
  have h2 := h w.heap.size _ rfl hB (hS.push hB (.os e (.slice (some ⟨w.heap.size, 0, none⟩) 1 1) [v]) (OwnS.ofBlk hb (by unfold maxLen; simp)) (fun k hk => Nat.le_of_eq (by simpa [Ent.os, Value.ownBlock] using hk)))
  have hc : v.cells = #[v] := by cases v <;> first | rfl | cases h1
  cases hie : P.info? e with
  | none => simp [hie] at hf
  | some ie =>
    have hsz : ie.size = 1 := by simpa [hie] using hf
    cases hzz : ie.zero with
    | none => simp [hie, hzz] at hz
    | some z =>
      have hz1 : z.cells.size = 1 := by simpa [hie, hzz] using hz
      refine wpList_step fun K hK => ?_
      rw [if_pos hw]
      refine wp_buildSlice t e 1 #[(0, x)] ho #[v] ie z hu hie hzz (by rw [hsz]; decide) (by rw [hsz]; decide) ?_ (hK _ _ h2)
      have e1 : ∀ xs : Array Value, xs.size = 1 → xs.setIfInBounds 0 v = #[v] := fun xs hx => by
        obtain ⟨y, rfl⟩ := Array.size_eq_one_iff.1 hx
        rfl
      simp [hsz, hv, Instr.fill, hc, e1]
theorem news_of_rd {w : World} {A : Option Addr} {k : IntKind} {xs : List Int} (h : Rd w A k xs) : ∀ j u, (ints k xs)[j]? = some u → ∃ ad, A = some ad ∧ w.cell? (ad.add j) = some u := fun j u hu => by
  have hlt := (List.getElem?_eq_some_iff.1 hu).1
  simp at hlt
  rw [ints_get k xs j hlt] at hu
  injection hu with hu
  subst hu
  rcases h with h | ⟨g, o, rfl, h⟩
  · subst h; simp at hlt
  · exact ⟨_, rfl, by rw [add_lit]; exact h j hlt⟩
theorem ints_one' (k : IntKind) (xs : List Int) : ∀ u ∈ ints k xs, u.oneCell' = true := fun u hu => by
  obtain ⟨y, _, rfl⟩ := List.mem_map.1 hu; rfl
/-- A fresh slice beside all that is there. -/
theorem HS.pushOwn {F : Nat → Prop} {w0 w w' : World} {L : List Ent} (h : HS F w0 w L) (hb : Below w.heap.size w w') {e : TypeId} {k : IntKind} {v : Value} {xs : List Int} (ho : Own w' w.heap.size e k v xs) : HS F w0 w' (.os e v (ints k xs) :: L) :=
  h.push hb _ ho.os fun j hj => ho.base_le j hj
theorem Own.partsL {w : World} {b m : Nat} {e : TypeId} {k : IntKind} {v : Value} {xs : List Int} (h : Own w b e k v xs) (hm : xs.length = m) : ∃ A c, v = .slice A m c ∧ m ≤ c ∧ (A = none → c = 0) := by
  subst hm
  obtain ⟨A, c, h1, h2, h3, _⟩ := h.parts
  exact ⟨A, c, h1, h2, h3⟩
end Go.Cour
/- A desc's cells. -/
namespace Go.Proofs.YtlikinglgegclaaGreatDoor
open Go.RowKit Go.Cour
/-- A desc's cells. -/
def descC (id m q : Int) (key root blob : List Int) : List Value := [.int .u32 id, .int .u32 m, .int .u32 q] ++ ints .u8 key ++ ints .u8 root ++ ints .u8 blob
theorem descC_length {id m q : Int} {key root blob : List Int} (hk : key.length = 32) (hr : root.length = 32) (hb : blob.length = 32) : (descC id m q key root blob).length = 99 := by simp [descC, hk, hr, hb]
theorem descC_one (id m q : Int) (key root blob : List Int) : ∀ v ∈ descC id m q key root blob, v.oneCell' = true := fun v hv => by
  unfold descC at hv
  simp only [List.mem_append, List.mem_cons, List.not_mem_nil, or_false] at hv
  rcases hv with (((rfl | rfl | rfl) | hv) | hv) | hv
  · rfl
  · rfl
  · rfl
  · exact ints_one' _ _ v hv
  · exact ints_one' _ _ v hv
  · exact ints_one' _ _ v hv
theorem sizeDesc : (Tryz.prog.info? 27).map (·.size) = some 99 := by kernel_rfl
theorem undDesc : ∃ fs, Tryz.prog.underlying 27 = some (.struct fs) := ⟨_, Tryz.underlying27⟩
end Go.Proofs.YtlikinglgegclaaGreatDoor
/- Descs held against each other. -/
namespace Go.Proofs.YtlikinglgegclaaGreatDoor
open Go.RowKit Go.Cour
theorem undU8D : Tryz.prog.underlying 5 = some (.int .u8) := by kernel_rfl
theorem sizeU8D : (Tryz.prog.info? 5).map (·.size) = some 1 := by kernel_rfl
theorem arrKeyD : Tryz.prog.underlying 24 = some (.array 32 5) := by kernel_rfl
theorem arrHashD : Tryz.prog.underlying 25 = some (.array 32 5) := by kernel_rfl
theorem infoKeyD : (Tryz.prog.info? 24).map (·.size) = some 32 := by kernel_rfl
theorem infoHashD : (Tryz.prog.info? 25).map (·.size) = some 32 := by kernel_rfl
theorem part_arr {P : Program} (w : World) (t e : TypeId) (n : Nat) (ht : P.underlying t = some (.array n e)) (hi : (P.info? t).map (·.size) = some n) (xs : Array Value) (off : Nat) (cs : Array Value) (h : xs.extract off (off + n) = cs) :
    (part t xs off).run P w = .ok (.agg cs) w := by
  obtain ⟨i, hi1, hi2⟩ : ∃ i, P.info? t = some i ∧ i.size = n := by
    cases hie : P.info? t with
    | none => simp [hie] at hi
    | some i => exact ⟨i, rfl, by simpa [hie] using hi⟩
  subst h
  simp [part, isAgg, run_underlying ht, sizeOf, typeInfo, hi1, hi2]
theorem part_int {P : Program} (w : World) (t : TypeId) (k : IntKind) (ht : P.underlying t = some (.int k)) (xs : Array Value) (off : Nat) (v : Value) (h : xs[off]? = some v) :
    (part t xs off).run P w = .ok v w := by
  simp [part, isAgg, run_underlying ht, h]
section
variable {id m q : Int} {k r b : List Int}
theorem descC_ext3 (hk : k.length = 32) : (descC id m q k r b).toArray.extract 3 35 = (ints .u8 k).toArray := by
  unfold descC
  apply Array.ext'
  simp [List.drop_append, hk, List.take_append]
theorem descC_ext35 (hk : k.length = 32) (hr : r.length = 32) : (descC id m q k r b).toArray.extract 35 67 = (ints .u8 r).toArray := by
  unfold descC
  apply Array.ext'
  simp [List.drop_append, hk, hr, List.take_append]
theorem descC_ext67 (hk : k.length = 32) (hr : r.length = 32) (hb : b.length = 32) : (descC id m q k r b).toArray.extract 67 99 = (ints .u8 b).toArray := by
  unfold descC
  apply Array.ext'
  simp [List.drop_append, hk, hr, hb, List.take_append]
  rw [List.drop_eq_nil_of_le (by simp [hk]), List.take_nil, List.nil_append]
  exact List.take_of_length_le (by simp [hb])
end
theorem fieldsDesc : (Tryz.prog.fieldsOf 27).toList.map (fun f => (f.name != "_", f.type, f.offset)) = [(true, 22, 0), (true, 22, 1), (true, 22, 2), (true, 24, 3), (true, 25, 35), (true, 25, 67)] := by kernel_rfl
theorem undU32D : Tryz.prog.underlying 22 = some (.int .u32) := by kernel_rfl
theorem undDescF : Tryz.prog.underlying 27 = some (.struct (Tryz.prog.fieldsOf 27)) := by kernel_rfl
theorem eqF_cons {P : Program} (w : World) (d : Nat) (xs ys : Array Value) (f : Field) (fs : List Field) (b : Bool) (t : TypeId) (o : Nat) (hf : (f.name != "_", f.type, f.offset) = (true, t, o)) (u v : Value) (hu : (part t xs o).run P w = .ok u w) (hv : (part t ys o).run P w = .ok v w) (he : (Op.equalIn d t u v).run P w = .ok b w) :
    (Op.eqFields d xs ys (f :: fs)).run P w = if b then (Op.eqFields d xs ys fs).run P w else .ok false w := by
  injection hf with h1 h2; injection h2 with h2 h3
  subst h2 h3
  have hn : f.name ≠ "_" := by simpa using h1
  cases b <;> simp [Op.eqFields, hn, hu, hv, he]
theorem desc_same (id m q : Int) (k r b : List Int) (hk : k.length = 32) (hr : r.length = 32) (hb : b.length = 32) (w : World) :
    (Op.equalIn 10000 27 (.agg (descC id m q k r b).toArray) (.agg (descC id m q k r b).toArray)).run Tryz.prog w = .ok true w := by
  rw [run_equalIn_agg w 9999 27 _ _ undDescF (by kernel_rfl)]
  have hf := fieldsDesc
  generalize (Tryz.prog.fieldsOf 27).toList = fs at hf
  obtain ⟨f0, fs, rfl, h0, hf⟩ := List.map_eq_cons_iff.1 hf
  obtain ⟨f1, fs, rfl, h1, hf⟩ := List.map_eq_cons_iff.1 hf
  obtain ⟨f2, fs, rfl, h2, hf⟩ := List.map_eq_cons_iff.1 hf
  obtain ⟨f3, fs, rfl, h3, hf⟩ := List.map_eq_cons_iff.1 hf
  obtain ⟨f4, fs, rfl, h4, hf⟩ := List.map_eq_cons_iff.1 hf
  obtain ⟨f5, fs, rfl, h5, hf⟩ := List.map_eq_cons_iff.1 hf
  obtain rfl := List.map_eq_nil_iff.1 hf
  have pi : ∀ (o : Nat) (x : Int), (descC id m q k r b).toArray[o]? = some (.int .u32 x) → (part 22 (descC id m q k r b).toArray o).run Tryz.prog w = .ok (.int .u32 x) w := fun o x h => part_int w 22 .u32 undU32D _ o _ h
  have ei : ∀ x : Int, (Op.equalIn 9999 22 (.int .u32 x) (.int .u32 x)).run Tryz.prog w = .ok true w := fun x => by rw [run_equalIn_int w 9998 22 .u32 .u32 x x undU32D]; simp
  have ek : ∀ xs : List Int, xs.length = 32 → (Op.equalIn 9999 24 (.agg (ints .u8 xs).toArray) (.agg (ints .u8 xs).toArray)).run Tryz.prog w = .ok true w := fun xs h => by rw [run_equalIn_ints w 9997 24 5 32 .u8 arrKeyD undU8D sizeU8D xs xs h h]; simp
  have eh : ∀ xs : List Int, xs.length = 32 → (Op.equalIn 9999 25 (.agg (ints .u8 xs).toArray) (.agg (ints .u8 xs).toArray)).run Tryz.prog w = .ok true w := fun xs h => by rw [run_equalIn_ints w 9997 25 5 32 .u8 arrHashD undU8D sizeU8D xs xs h h]; simp
  have a0 := pi 0 id (by simp [descC])
  have a1 := pi 1 m (by simp [descC])
  have a2 := pi 2 q (by simp [descC])
  have a3 := part_arr (P := Tryz.prog) w 24 5 32 arrKeyD infoKeyD (descC id m q k r b).toArray 3 _ (descC_ext3 hk)
  have a4 := part_arr (P := Tryz.prog) w 25 5 32 arrHashD infoHashD (descC id m q k r b).toArray 35 _ (descC_ext35 hk hr)
  have a5 := part_arr (P := Tryz.prog) w 25 5 32 arrHashD infoHashD (descC id m q k r b).toArray 67 _ (descC_ext67 hk hr hb)
  rw [eqF_cons w _ _ _ _ _ true _ _ h0 _ _ a0 a0 (ei id), if_pos rfl, eqF_cons w _ _ _ _ _ true _ _ h1 _ _ a1 a1 (ei m), if_pos rfl, eqF_cons w _ _ _ _ _ true _ _ h2 _ _ a2 a2 (ei q), if_pos rfl,
    eqF_cons w _ _ _ _ _ true _ _ h3 _ _ a3 a3 (ek k hk), if_pos rfl, eqF_cons w _ _ _ _ _ true _ _ h4 _ _ a4 a4 (eh r hr), if_pos rfl, eqF_cons w _ _ _ _ _ true _ _ h5 _ _ a5 a5 (eh b hb), if_pos rfl]
  simp [Op.eqFields]
theorem desc_neq (id m q : Int) (k r b : List Int) (hk : k.length = 32) (hr : r.length = 32) (hb : b.length = 32) (w : World) :
    (binOp .neq 27 (.agg (descC id m q k r b).toArray) (.agg (descC id m q k r b).toArray)).run Tryz.prog w = .ok (.bool false) w := by
  rw [run_neq_struct, desc_same id m q k r b hk hr hb w]; rfl
theorem desc_eql (id m q : Int) (k r b : List Int) (hk : k.length = 32) (hr : r.length = 32) (hb : b.length = 32) (w : World) :
    (binOp .eql 27 (.agg (descC id m q k r b).toArray) (.agg (descC id m q k r b).toArray)).run Tryz.prog w = .ok (.bool true) w := by
  rw [run_eql_struct, desc_same id m q k r b hk hr hb w]; rfl
end Go.Proofs.YtlikinglgegclaaGreatDoor
/- The program's numbers of the rounds; a block taken in. -/
namespace Go.Proofs.YtlikinglgegclaaGreatDoor
open Go.RowKit Go.Cour
theorem infoW8 : (Tryz.prog.info? 108).map (·.size) = some 8 := by kernel_rfl
theorem arrW8 : Tryz.prog.underlying 108 = some (.array 8 22) := by kernel_rfl
theorem zeroW8 : ((Tryz.prog.info? 108).bind (·.zero)).map (·.cells) = some (ints .u32 (List.replicate 8 0)).toArray := by kernel_rfl
theorem sizeU32 : (Tryz.prog.info? 22).map (·.size) = some 1 := by kernel_rfl
set_option maxRecDepth 100000 in
theorem round_calls (w : World) :
    Calls Tryz.prog 94 #[] w fun e w' => e = .returned (.agg (ints .u32 shaK).toArray) ∧ Below w.heap.size w w' := by
  have hS := HS.start NoF w
  go_enter Tryz.func94, Tryz.ntmps94
  go_wp2_with (first
    | (refine alloc_blk rfl 123 rfl _ rfl (ints .u32 (List.replicate 64 0)) zeroW64 ?_; intro gr w2 hga hba hBa hsa; replace hS := hS.pushBlk hBa hba hga; clear hga hba hBa hsa)
    | (refine wpList_buildFlatArr rfl 123 22 64 _ rfl .u32 shaK arrW64 sizeU32 (by kernel_rfl) (by rfl) ?_)
    | (refine hs_storeN hS 0 rfl rfl 123 _ _ rfl 0 rfl (ints .u32 shaK) rfl (ints_one' _ _) 64 infoW64 (by rfl) (by simp) _ rfl ?_; intro w9 hS)
    | fail)
  have hb := hS.blk 0 rfl
  simp only [List.take_zero, List.nil_append, Nat.zero_add] at hb
  rw [List.drop_eq_nil_of_le (by simp), List.append_nil] at hb
  exact bodyPost_ret (results_blk rfl _ _ gr _ _ 64 _ rfl hb arrW64 (by rfl) infoW64) rfl ⟨rfl, hS.bel⟩
/-- What the blocks of mix hold. -/
abbrev MS (w wr : World) (gh g4 g5 g6 : Nat) (h ws ks s : List Int) (vr vn : Value) : Prop :=
  HS (fun k => k = gh) w wr [.blk g6 108 (ints .u32 s), .blk g5 123 (ints .u32 ks), .blk g4 123 (ints .u32 ws), .blk gh 122 (ints .u32 h ++ [vr, vn])]
set_option maxHeartbeats 2000000 in
set_option maxRecDepth 100000 in
theorem mix_calls (h b : List Int) (gh g o n c : Nat) (vr vn : Value) (w : World) (hb : Blk w gh 122 (ints .u32 h ++ [vr, vn])) (hl : h.length = 8) (hh : ∀ x ∈ h, W32 x) (hat : At w g o b 64) (hne : g ≠ gh) (hr : ∀ i, 0 ≤ rd b i ∧ rd b i < 256) (hn : 64 ≤ n) :
    Calls Tryz.prog 85 #[.pointer (some ⟨gh, 0, none⟩), .slice (some ⟨g, o, none⟩) n c] w fun e w' => e = .returned (.tuple #[]) ∧ Upd (fun k => k = gh) w w' ∧ Blk w' gh 122 (ints .u32 (shaBlock h b) ++ [vr, vn]) := by
  have HAT := hid hat
  have HR := hid hr
  have hS := (HS.start (fun k => k = gh) w).take (.blk gh 122 (ints .u32 h ++ [vr, vn])) hb (fun k hk => .inl hk) (fun f hf => by simp at hf)
  have HL := hid hl
  obtain ⟨ws, hws⟩ : ∃ ws, Hd (sched b = ws) := ⟨_, hid rfl⟩
  obtain ⟨ks, hks⟩ : ∃ ks, Hd (shaK = ks) := ⟨_, hid rfl⟩
  have HLs : Hd (ws.length = 64) := hid (by rw [← hws.out]; exact schedB_length b 48)
  have HLk : Hd (ks.length = 64) := hid (by rw [← hks.out]; rfl)
  clear hat hr hb hl
  go_enter Tryz.func85, Tryz.ntmps85
  try go_wp2_with fail
  refine wp_region_S (F := (fun k => k = gh)) (w0 := w) (L0 := [.blk gh 122 (ints .u32 h ++ [vr, vn])]) [1, 2, 7, 8, 9] [10, 11, 12]
    (fun iK u E => match iK with
      | 1 => u = .agg (ints .u32 ws).toArray ∧ E = []
      | 2 => u = .agg (ints .u32 ks).toArray ∧ E = []
      | 7 => ∃ g, u = .pointer (some ⟨g, 0, none⟩) ∧ E = [.blk g 123 (ints .u32 (List.replicate 64 0))]
      | 8 => ∃ g, u = .pointer (some ⟨g, 0, none⟩) ∧ E = [.blk g 123 (ints .u32 (List.replicate 64 0))]
      | 9 => ∃ g, u = .pointer (some ⟨g, 0, none⟩) ∧ E = [.blk g 108 (ints .u32 (List.replicate 8 0))]
      | _ => False)
    ([]) (by kernel_rfl) (by kernel_rfl) hS ?_
  show wpS _ _ _ _ _ _ _ _ _ _ [0, 1, 2, 3, 4, 5, 6, 7, 8, 9, 10, 11, 12] _
  apply wpS_read (i := 0) rfl rfl ⟨_, hS⟩ rfl
  · intro w' hT'
    simp only [getElem_toArray, getElem_cons_zero, getElem_cons_succ]
    go_wp2_with fail
    first | exact ⟨rfl, rfl, rfl⟩ | rfl
  refine wpS_soft (i := 1) rfl rfl rfl (Nat.le_of_ble_eq_true rfl) ?_ ?_
  · intro w' hT
    simp only [getElem_toArray, getElem_cons_zero, getElem_cons_succ]
    go_wp2_with (first
      | (go_at_call 93; refine (words_calls b g o n c _ (fun i hi => hT.oldCell (HAT.out i hi) hne) HR.out hn).mono ?_; rintro e wz ⟨rfl, hB⟩; rw [hws.out])
      | fail)
    exact SoftP.mk' (.agg (ints .u32 ws).toArray) ([]) rfl (⟨rfl, rfl⟩) (hT.below hB) (hB) (fun _ h => by cases h)
  intro u1 E1 hK1
  obtain ⟨rfl, rfl⟩ := hK1
  simp only [Act.put, List.setIfInBounds_toArray, List.set_cons_zero, List.set_cons_succ]
  refine wpS_soft (i := 2) rfl rfl rfl (Nat.le_of_ble_eq_true rfl) ?_ ?_
  · intro w' hT
    simp only [getElem_toArray, getElem_cons_zero, getElem_cons_succ]
    go_wp2_with (first
      | (go_at_call 94; refine (round_calls _).mono ?_; rintro e wz ⟨rfl, hB⟩; rw [hks.out])
      | fail)
    exact SoftP.mk' (.agg (ints .u32 ks).toArray) ([]) rfl (⟨rfl, rfl⟩) (hT.below hB) (hB) (fun _ h => by cases h)
  intro u2 E2 hK2
  obtain ⟨rfl, rfl⟩ := hK2
  simp only [Act.put, List.setIfInBounds_toArray, List.set_cons_zero, List.set_cons_succ]
  apply wpS_read (i := 3) rfl rfl ⟨_, hS⟩ rfl
  · intro w' hT'
    simp only [getElem_toArray, getElem_cons_zero, getElem_cons_succ]
    go_wp2_with fail
    first | exact ⟨rfl, rfl, rfl⟩ | rfl
  apply wpS_read (i := 4) rfl rfl ⟨_, hS⟩ rfl
  · intro w' hT'
    simp only [getElem_toArray, getElem_cons_zero, getElem_cons_succ]
    go_wp2_with fail
    first | exact ⟨rfl, rfl, rfl⟩ | rfl
  apply wpS_read (i := 5) rfl rfl ⟨_, hS⟩ rfl
  · intro w' hT'
    simp only [getElem_toArray, getElem_cons_zero, getElem_cons_succ]
    go_wp2_with fail
    first | exact ⟨rfl, rfl, rfl⟩ | rfl
  apply wpS_read (i := 6) rfl rfl ⟨_, hS⟩ rfl
  · intro w' hT'
    simp only [getElem_toArray, getElem_cons_zero, getElem_cons_succ]
    go_wp2_with (first
      | (refine hs_loadN hT' 0 rfl rfl 108 _ rfl 0 rfl (ints .u32 h) (fun m v hv => by rw [Nat.zero_add, List.getElem?_append_left (List.getElem?_eq_some_iff.1 hv).1]; exact hv) 8 infoW8 (by simp [HL.out]) _ arrW8 rfl _ rfl ?_)
      | fail)
    first | exact ⟨rfl, rfl, rfl⟩ | rfl
  refine wpS_soft (i := 7) rfl rfl rfl (Nat.le_of_ble_eq_true rfl) ?_ ?_
  · intro w' hT
    simp only [getElem_toArray, getElem_cons_zero, getElem_cons_succ]
    go_wp2_with (first
      | (refine alloc_blk rfl 123 rfl _ rfl (ints .u32 (List.replicate 64 0)) zeroW64 ?_; intro ga wz hga hba hBa hsa)
      | fail)
    exact SoftP.mk' (.pointer (some ⟨ga, 0, none⟩)) ([.blk ga 123 (ints .u32 (List.replicate 64 0))]) rfl (⟨ga, rfl, rfl⟩) (hT.pushBlk hBa hba hga) (hBa) (fun e he k hk => by simp at he; subst he; have : k = ga := hk; omega)
  intro u7 E7 hK7
  obtain ⟨g4, rfl, rfl⟩ := hK7
  simp only [Act.put, List.setIfInBounds_toArray, List.set_cons_zero, List.set_cons_succ]
  refine wpS_soft (i := 8) rfl rfl rfl (Nat.le_of_ble_eq_true rfl) ?_ ?_
  · intro w' hT
    simp only [getElem_toArray, getElem_cons_zero, getElem_cons_succ]
    go_wp2_with (first
      | (refine alloc_blk rfl 123 rfl _ rfl (ints .u32 (List.replicate 64 0)) zeroW64 ?_; intro ga wz hga hba hBa hsa)
      | fail)
    exact SoftP.mk' (.pointer (some ⟨ga, 0, none⟩)) ([.blk ga 123 (ints .u32 (List.replicate 64 0))]) rfl (⟨ga, rfl, rfl⟩) (hT.pushBlk hBa hba hga) (hBa) (fun e he k hk => by simp at he; subst he; have : k = ga := hk; omega)
  intro u8 E8 hK8
  obtain ⟨g5, rfl, rfl⟩ := hK8
  simp only [Act.put, List.setIfInBounds_toArray, List.set_cons_zero, List.set_cons_succ]
  refine wpS_soft (i := 9) rfl rfl rfl (Nat.le_of_ble_eq_true rfl) ?_ ?_
  · intro w' hT
    simp only [getElem_toArray, getElem_cons_zero, getElem_cons_succ]
    go_wp2_with (first
      | (refine alloc_blk rfl 108 rfl _ rfl (ints .u32 (List.replicate 8 0)) zeroW8 ?_; intro ga wz hga hba hBa hsa)
      | fail)
    exact SoftP.mk' (.pointer (some ⟨ga, 0, none⟩)) ([.blk ga 108 (ints .u32 (List.replicate 8 0))]) rfl (⟨ga, rfl, rfl⟩) (hT.pushBlk hBa hba hga) (hBa) (fun e he k hk => by simp at he; subst he; have : k = ga := hk; omega)
  intro u9 E9 hK9
  obtain ⟨g6, rfl, rfl⟩ := hK9
  simp only [Act.put, List.setIfInBounds_toArray, List.set_cons_zero, List.set_cons_succ]
  refine wpS_hard (i := 10) rfl rfl ?_
  intro w10 hT
  replace hT : HS (fun k => k = gh) w w10 [.blk g6 108 (ints .u32 (List.replicate 8 0)), .blk g5 123 (ints .u32 (List.replicate 64 0)), .blk g4 123 (ints .u32 (List.replicate 64 0)), .blk gh 122 (ints .u32 h ++ [vr, vn])] := hT
  simp only [getElem_toArray, getElem_cons_zero, getElem_cons_succ]
  go_wp2_with (first
    | (refine hs_storeW hT 2 rfl rfl 123 _ _ rfl rfl (ints .u32 ws) rfl (ints_one' _ _) _ infoW64 (by simp [HLs.out]) (by simp) _ rfl ?_; intro wz hT)
    | fail)
  refine HardP.mk' ([.blk g6 108 (ints .u32 (List.replicate 8 0)), .blk g5 123 (ints .u32 (List.replicate 64 0)), .blk g4 123 (ints .u32 ws)]) rfl ?_ ?_
  · exact hT
  clear hT
  refine wpS_hard (i := 11) rfl rfl ?_
  intro w11 hT
  replace hT : HS (fun k => k = gh) w w11 [.blk g6 108 (ints .u32 (List.replicate 8 0)), .blk g5 123 (ints .u32 (List.replicate 64 0)), .blk g4 123 (ints .u32 ws), .blk gh 122 (ints .u32 h ++ [vr, vn])] := hT
  simp only [getElem_toArray, getElem_cons_zero, getElem_cons_succ]
  go_wp2_with (first
    | (refine hs_storeW hT 1 rfl rfl 123 _ _ rfl rfl (ints .u32 ks) rfl (ints_one' _ _) _ infoW64 (by simp [HLk.out]) (by simp) _ rfl ?_; intro wz hT)
    | fail)
  refine HardP.mk' ([.blk g6 108 (ints .u32 (List.replicate 8 0)), .blk g5 123 (ints .u32 ks), .blk g4 123 (ints .u32 ws)]) rfl ?_ ?_
  · exact hT
  clear hT
  refine wpS_hard (i := 12) rfl rfl ?_
  intro w12 hT
  replace hT : HS (fun k => k = gh) w w12 [.blk g6 108 (ints .u32 (List.replicate 8 0)), .blk g5 123 (ints .u32 ks), .blk g4 123 (ints .u32 ws), .blk gh 122 (ints .u32 h ++ [vr, vn])] := hT
  simp only [getElem_toArray, getElem_cons_zero, getElem_cons_succ]
  go_wp2_with (first
    | (refine hs_storeW hT 0 rfl rfl 108 _ _ rfl rfl (ints .u32 h) rfl (ints_one' _ _) _ infoW8 (by simp [HL.out]) (by simp) _ rfl ?_; intro wz hT)
    | fail)
  refine HardP.mk' ([.blk g6 108 (ints .u32 h), .blk g5 123 (ints .u32 ks), .blk g4 123 (ints .u32 ws)]) rfl ?_ ?_
  · exact hT
  clear hT
  refine wpS_end ?_
  intro wz hT
  try dsimp only
  have hS0 : MS w wz gh g4 g5 g6 h ws ks (roundsS b h 0) vr vn := hT
  clear hT hS
  go_wp2_with fail
  go_loopg [7, 8, 9, 10, 11, 20] 65 (fun kq v7 v8 v9 v10 v11 v20 wr => ∃ i : Nat, i ≤ 64 ∧ v20 = .int .i64 i ∧ Hd (kq + i = 65) ∧ MS w wr gh g4 g5 g6 h ws ks (roundsS b h i) vr vn)
  case atStart => exact ⟨0, by omega, rfl, hid (by omega), hS0⟩
  case round =>
    clear hS0
    obtain ⟨i, hi, rfl, hq, hS⟩ := hrel
    by_cases hlt : i < 64
    · have hlt2 : (i : Int) < 64 := by omega
      have HX := hid (roundsS_succ b h i)
      rw [hws.out] at HX
      have R := roundsS_W32 b h hh i
      have HL8 := roundsS_length b h HL.out i
      generalize roundsS b h i = ss at *
      obtain ⟨x0, x1, x2, x3, x4, x5, x6, x7, rfl⟩ : ∃ x0 x1 x2 x3 x4 x5 x6 x7, ss = [x0, x1, x2, x3, x4, x5, x6, x7] := by
        match ss, HL8 with
        | [x0, x1, x2, x3, x4, x5, x6, x7], _ => exact ⟨_, _, _, _, _, _, _, _, rfl⟩
      obtain ⟨⟨r0, s0⟩, ⟨r1, s1⟩, ⟨r2, s2⟩, ⟨r3, s3⟩, ⟨r4, s4⟩, ⟨r5, s5⟩, ⟨r6, s6⟩, ⟨r7, s7⟩⟩ : W32 x0 ∧ W32 x1 ∧ W32 x2 ∧ W32 x3 ∧ W32 x4 ∧ W32 x5 ∧ W32 x6 ∧ W32 x7 := by
        refine ⟨R _ ?_, R _ ?_, R _ ?_, R _ ?_, R _ ?_, R _ ?_, R _ ?_, R _ ?_⟩ <;> simp
      clear R HL8
      obtain ⟨ki, hki⟩ : ∃ k, Hd (rd ks i = k) := ⟨_, hid rfl⟩
      obtain ⟨wi, hwi⟩ : ∃ k, Hd (rd ws i = k) := ⟨_, hid rfl⟩
      obtain ⟨rk, sk⟩ : W32 ki := by rw [← hki.out, ← hks.out]; exact shaK_W32 i
      obtain ⟨rw_, sw_⟩ : W32 wi := by rw [← hwi.out, ← hws.out]; exact rd_all (schedB_W32 b 48) zero_W32 _
      have CK : Hd (∀ {w'}, MS w w' gh g4 g5 g6 h ws ks [x0, x1, x2, x3, x4, x5, x6, x7] vr vn → w'.cell? ⟨g5, i, none⟩ = some (.int .u32 ki)) := hid fun h => by rw [h.cellI 1 rfl i (by rw [HLk.out]; exact hlt), hki.out]
      have CW : Hd (∀ {w'}, MS w w' gh g4 g5 g6 h ws ks [x0, x1, x2, x3, x4, x5, x6, x7] vr vn → w'.cell? ⟨g4, i, none⟩ = some (.int .u32 wi)) := hid fun h => by rw [h.cellI 2 rfl i (by rw [HLs.out]; exact hlt), hwi.out]
      try go_wp2_with fail
      refine wp_region_L (T := fun w' => MS w w' gh g4 g5 g6 h ws ks [x0, x1, x2, x3, x4, x5, x6, x7] vr vn) (by kernel_rfl) (by kernel_rfl) hS.drew ?_
      intro wa hT
      show wpT _ _ _ _ [0, 1, 2, 3, 4, 5] _ _
      apply wpT_read (i := 0) rfl hT rfl
      · intro w' hT'
        simp only [getElem_toArray, getElem_cons_zero, getElem_cons_succ]
        go_wp2_with fail
        first | exact ⟨rfl, rfl, rfl⟩ | rfl
      apply wpT_read (i := 1) rfl hT rfl
      · intro w' hT'
        simp only [getElem_toArray, getElem_cons_zero, getElem_cons_succ]
        have cx0 : w'.cell? ⟨g6, 0, none⟩ = some (.int .u32 x0) := hT'.cell 0 rfl 0
        have cx4 : w'.cell? ⟨g6, 4, none⟩ = some (.int .u32 x4) := hT'.cell 0 rfl 4
        go_wp2_with fail
        first | exact ⟨rfl, rfl, rfl⟩ | rfl
      apply wpT_read (i := 2) rfl hT rfl
      · intro w' hT'
        simp only [getElem_toArray, getElem_cons_zero, getElem_cons_succ]
        go_wp2_with fail
        first | exact ⟨rfl, rfl, rfl⟩ | rfl
      apply wpT_read (i := 3) rfl hT rfl
      · intro w' hT'
        simp only [getElem_toArray, getElem_cons_zero, getElem_cons_succ]
        have cx0 : w'.cell? ⟨g6, 0, none⟩ = some (.int .u32 x0) := hT'.cell 0 rfl 0
        have cx4 : w'.cell? ⟨g6, 4, none⟩ = some (.int .u32 x4) := hT'.cell 0 rfl 4
        go_wp2_with fail
        first | exact ⟨rfl, rfl, rfl⟩ | rfl
      apply wpT_read (i := 4) rfl hT rfl
      · intro w' hT'
        simp only [getElem_toArray, getElem_cons_zero, getElem_cons_succ]
        go_wp2_with fail
        first | exact ⟨rfl, rfl, rfl⟩ | rfl
      apply wpT_read (i := 5) rfl hT rfl
      · intro w' hT'
        simp only [getElem_toArray, getElem_cons_zero, getElem_cons_succ]
        go_wp2_with fail
        first | exact ⟨rfl, rfl, rfl⟩ | rfl
      refine wpT_end ?_
      try dsimp only
      replace hS := hT
      clear hT
      try go_wp2_with fail
      refine wp_region_L (T := fun w' => MS w w' gh g4 g5 g6 h ws ks [x0, x1, x2, x3, x4, x5, x6, x7] vr vn) (by kernel_rfl) (by kernel_rfl) hS.drew ?_
      intro wa hT
      show wpT _ _ _ _ [0, 1, 2, 3, 4, 5, 6, 7, 8, 9, 10, 11, 12, 13, 14, 15, 16, 17, 18, 19, 20, 21, 22, 23, 24, 25, 26, 27, 28, 29, 30] _ _
      apply wpT_read (i := 0) rfl hT rfl
      · intro w' hT'
        simp only [getElem_toArray, getElem_cons_zero, getElem_cons_succ]
        go_wp2_with fail
        first | exact ⟨rfl, rfl, rfl⟩ | rfl
      apply wpT_read (i := 1) rfl hT rfl
      · intro w' hT'
        simp only [getElem_toArray, getElem_cons_zero, getElem_cons_succ]
        have cx7 : w'.cell? ⟨g6, 7, none⟩ = some (.int .u32 x7) := hT'.cell 0 rfl 7
        have cx5 : w'.cell? ⟨g6, 5, none⟩ = some (.int .u32 x5) := hT'.cell 0 rfl 5
        have cx6 : w'.cell? ⟨g6, 6, none⟩ = some (.int .u32 x6) := hT'.cell 0 rfl 6
        have ck := CK.out hT'
        have cw := CW.out hT'
        go_wp2_with fail
        first | exact ⟨rfl, rfl, rfl⟩ | rfl
      apply wpT_read (i := 2) rfl hT rfl
      · intro w' hT'
        simp only [getElem_toArray, getElem_cons_zero, getElem_cons_succ]
        go_wp2_with fail
        first | exact ⟨rfl, rfl, rfl⟩ | rfl
      refine wpT_actL (i := 3) rfl rfl ?_
      simp only [getElem_toArray, getElem_cons_zero, getElem_cons_succ]
      go_wp2_with (first
        | (go_at_call 95; refine (right6_calls x4 _ r4 s4).mono ?_; rintro e w1 ⟨rfl, rfl⟩)
        | fail)
      refine OnT.mk rfl ?_ ?_
      · exact hT
      clear hT
      intro w5_3 hT
      apply wpT_read (i := 4) rfl hT rfl
      · intro w' hT'
        simp only [getElem_toArray, getElem_cons_zero, getElem_cons_succ]
        go_wp2_with fail
        first | exact ⟨rfl, rfl, rfl⟩ | rfl
      refine wpT_actL (i := 5) rfl rfl ?_
      simp only [getElem_toArray, getElem_cons_zero, getElem_cons_succ]
      go_wp2_with (first
        | (go_at_call 95; refine (right11_calls x4 _ r4 s4).mono ?_; rintro e w1 ⟨rfl, rfl⟩)
        | fail)
      refine OnT.mk rfl ?_ ?_
      · exact hT
      clear hT
      intro w5_5 hT
      apply wpT_read (i := 6) rfl hT rfl
      · intro w' hT'
        simp only [getElem_toArray, getElem_cons_zero, getElem_cons_succ]
        go_wp2_with fail
        first | exact ⟨rfl, rfl, rfl⟩ | rfl
      apply wpT_read (i := 7) rfl hT rfl
      · intro w' hT'
        simp only [getElem_toArray, getElem_cons_zero, getElem_cons_succ]
        go_wp2_with fail
        first | exact ⟨rfl, rfl, rfl⟩ | rfl
      refine wpT_actL (i := 8) rfl rfl ?_
      simp only [getElem_toArray, getElem_cons_zero, getElem_cons_succ]
      go_wp2_with (first
        | (go_at_call 95; refine (right25_calls x4 _ r4 s4).mono ?_; rintro e w1 ⟨rfl, rfl⟩)
        | fail)
      refine OnT.mk rfl ?_ ?_
      · exact hT
      clear hT
      intro w5_8 hT
      apply wpT_read (i := 9) rfl hT rfl
      · intro w' hT'
        simp only [getElem_toArray, getElem_cons_zero, getElem_cons_succ]
        go_wp2_with fail
        first | exact ⟨rfl, rfl, rfl⟩ | rfl
      apply wpT_read (i := 10) rfl hT rfl
      · intro w' hT'
        simp only [getElem_toArray, getElem_cons_zero, getElem_cons_succ]
        go_wp2_with fail
        first | exact ⟨rfl, rfl, rfl⟩ | rfl
      apply wpT_read (i := 11) rfl hT rfl
      · intro w' hT'
        simp only [getElem_toArray, getElem_cons_zero, getElem_cons_succ]
        go_wp2_with fail
        first | exact ⟨rfl, rfl, rfl⟩ | rfl
      apply wpT_read (i := 12) rfl hT rfl
      · intro w' hT'
        simp only [getElem_toArray, getElem_cons_zero, getElem_cons_succ]
        go_wp2_with fail
        first | exact ⟨rfl, rfl, rfl⟩ | rfl
      apply wpT_read (i := 13) rfl hT rfl
      · intro w' hT'
        simp only [getElem_toArray, getElem_cons_zero, getElem_cons_succ]
        have cx7 : w'.cell? ⟨g6, 7, none⟩ = some (.int .u32 x7) := hT'.cell 0 rfl 7
        have cx5 : w'.cell? ⟨g6, 5, none⟩ = some (.int .u32 x5) := hT'.cell 0 rfl 5
        have cx6 : w'.cell? ⟨g6, 6, none⟩ = some (.int .u32 x6) := hT'.cell 0 rfl 6
        have ck := CK.out hT'
        have cw := CW.out hT'
        go_wp2_with fail
        first | exact ⟨rfl, rfl, rfl⟩ | rfl
      apply wpT_read (i := 14) rfl hT rfl
      · intro w' hT'
        simp only [getElem_toArray, getElem_cons_zero, getElem_cons_succ]
        go_wp2_with fail
        first | exact ⟨rfl, rfl, rfl⟩ | rfl
      apply wpT_read (i := 15) rfl hT rfl
      · intro w' hT'
        simp only [getElem_toArray, getElem_cons_zero, getElem_cons_succ]
        go_wp2_with fail
        first | exact ⟨rfl, rfl, rfl⟩ | rfl
      apply wpT_read (i := 16) rfl hT rfl
      · intro w' hT'
        simp only [getElem_toArray, getElem_cons_zero, getElem_cons_succ]
        go_wp2_with fail
        first | exact ⟨rfl, rfl, rfl⟩ | rfl
      apply wpT_read (i := 17) rfl hT rfl
      · intro w' hT'
        simp only [getElem_toArray, getElem_cons_zero, getElem_cons_succ]
        go_wp2_with fail
        first | exact ⟨rfl, rfl, rfl⟩ | rfl
      apply wpT_read (i := 18) rfl hT rfl
      · intro w' hT'
        simp only [getElem_toArray, getElem_cons_zero, getElem_cons_succ]
        have cx7 : w'.cell? ⟨g6, 7, none⟩ = some (.int .u32 x7) := hT'.cell 0 rfl 7
        have cx5 : w'.cell? ⟨g6, 5, none⟩ = some (.int .u32 x5) := hT'.cell 0 rfl 5
        have cx6 : w'.cell? ⟨g6, 6, none⟩ = some (.int .u32 x6) := hT'.cell 0 rfl 6
        have ck := CK.out hT'
        have cw := CW.out hT'
        go_wp2_with fail
        first | exact ⟨rfl, rfl, rfl⟩ | rfl
      apply wpT_read (i := 19) rfl hT rfl
      · intro w' hT'
        simp only [getElem_toArray, getElem_cons_zero, getElem_cons_succ]
        go_wp2_with fail
        first | exact ⟨rfl, rfl, rfl⟩ | rfl
      apply wpT_read (i := 20) rfl hT rfl
      · intro w' hT'
        simp only [getElem_toArray, getElem_cons_zero, getElem_cons_succ]
        go_wp2_with fail
        first | exact ⟨rfl, rfl, rfl⟩ | rfl
      apply wpT_read (i := 21) rfl hT rfl
      · intro w' hT'
        simp only [getElem_toArray, getElem_cons_zero, getElem_cons_succ]
        go_wp2_with fail
        first | exact ⟨rfl, rfl, rfl⟩ | rfl
      apply wpT_read (i := 22) rfl hT rfl
      · intro w' hT'
        simp only [getElem_toArray, getElem_cons_zero, getElem_cons_succ]
        go_wp2_with fail
        first | exact ⟨rfl, rfl, rfl⟩ | rfl
      apply wpT_read (i := 23) rfl hT rfl
      · intro w' hT'
        simp only [getElem_toArray, getElem_cons_zero, getElem_cons_succ]
        go_wp2_with fail
        first | exact ⟨rfl, rfl, rfl⟩ | rfl
      apply wpT_read (i := 24) rfl hT rfl
      · intro w' hT'
        simp only [getElem_toArray, getElem_cons_zero, getElem_cons_succ]
        have cx7 : w'.cell? ⟨g6, 7, none⟩ = some (.int .u32 x7) := hT'.cell 0 rfl 7
        have cx5 : w'.cell? ⟨g6, 5, none⟩ = some (.int .u32 x5) := hT'.cell 0 rfl 5
        have cx6 : w'.cell? ⟨g6, 6, none⟩ = some (.int .u32 x6) := hT'.cell 0 rfl 6
        have ck := CK.out hT'
        have cw := CW.out hT'
        go_wp2_with fail
        first | exact ⟨rfl, rfl, rfl⟩ | rfl
      apply wpT_read (i := 25) rfl hT rfl
      · intro w' hT'
        simp only [getElem_toArray, getElem_cons_zero, getElem_cons_succ]
        go_wp2_with fail
        first | exact ⟨rfl, rfl, rfl⟩ | rfl
      apply wpT_read (i := 26) rfl hT rfl
      · intro w' hT'
        simp only [getElem_toArray, getElem_cons_zero, getElem_cons_succ]
        go_wp2_with fail
        first | exact ⟨rfl, rfl, rfl⟩ | rfl
      apply wpT_read (i := 27) rfl hT rfl
      · intro w' hT'
        simp only [getElem_toArray, getElem_cons_zero, getElem_cons_succ]
        go_wp2_with fail
        first | exact ⟨rfl, rfl, rfl⟩ | rfl
      apply wpT_read (i := 28) rfl hT rfl
      · intro w' hT'
        simp only [getElem_toArray, getElem_cons_zero, getElem_cons_succ]
        have cx7 : w'.cell? ⟨g6, 7, none⟩ = some (.int .u32 x7) := hT'.cell 0 rfl 7
        have cx5 : w'.cell? ⟨g6, 5, none⟩ = some (.int .u32 x5) := hT'.cell 0 rfl 5
        have cx6 : w'.cell? ⟨g6, 6, none⟩ = some (.int .u32 x6) := hT'.cell 0 rfl 6
        have ck := CK.out hT'
        have cw := CW.out hT'
        go_wp2_with fail
        first | exact ⟨rfl, rfl, rfl⟩ | rfl
      apply wpT_read (i := 29) rfl hT rfl
      · intro w' hT'
        simp only [getElem_toArray, getElem_cons_zero, getElem_cons_succ]
        go_wp2_with fail
        first | exact ⟨rfl, rfl, rfl⟩ | rfl
      apply wpT_read (i := 30) rfl hT rfl
      · intro w' hT'
        simp only [getElem_toArray, getElem_cons_zero, getElem_cons_succ]
        go_wp2_with fail
        first | exact ⟨rfl, rfl, rfl⟩ | rfl
      refine wpT_end ?_
      try dsimp only
      replace hS := hT
      clear hT
      try go_wp2_with fail
      refine wp_region_L (T := fun w' => MS w w' gh g4 g5 g6 h ws ks [x0, x1, x2, x3, x4, x5, x6, x7] vr vn) (by kernel_rfl) (by kernel_rfl) hS.drew ?_
      intro wa hT
      show wpT _ _ _ _ [0, 1, 2, 3, 4, 5, 6, 7, 8, 9, 10, 11, 12, 13, 14, 15, 16, 17, 18, 19, 20, 21, 22, 23, 24] _ _
      apply wpT_read (i := 0) rfl hT rfl
      · intro w' hT'
        simp only [getElem_toArray, getElem_cons_zero, getElem_cons_succ]
        go_wp2_with fail
        first | exact ⟨rfl, rfl, rfl⟩ | rfl
      refine wpT_actL (i := 1) rfl rfl ?_
      simp only [getElem_toArray, getElem_cons_zero, getElem_cons_succ]
      go_wp2_with (first
        | (go_at_call 95; refine (right2_calls x0 _ r0 s0).mono ?_; rintro e w1 ⟨rfl, rfl⟩)
        | fail)
      refine OnT.mk rfl ?_ ?_
      · exact hT
      clear hT
      intro w6_1 hT
      apply wpT_read (i := 2) rfl hT rfl
      · intro w' hT'
        simp only [getElem_toArray, getElem_cons_zero, getElem_cons_succ]
        go_wp2_with fail
        first | exact ⟨rfl, rfl, rfl⟩ | rfl
      refine wpT_actL (i := 3) rfl rfl ?_
      simp only [getElem_toArray, getElem_cons_zero, getElem_cons_succ]
      go_wp2_with (first
        | (go_at_call 95; refine (right13_calls x0 _ r0 s0).mono ?_; rintro e w1 ⟨rfl, rfl⟩)
        | fail)
      refine OnT.mk rfl ?_ ?_
      · exact hT
      clear hT
      intro w6_3 hT
      apply wpT_read (i := 4) rfl hT rfl
      · intro w' hT'
        simp only [getElem_toArray, getElem_cons_zero, getElem_cons_succ]
        go_wp2_with fail
        first | exact ⟨rfl, rfl, rfl⟩ | rfl
      apply wpT_read (i := 5) rfl hT rfl
      · intro w' hT'
        simp only [getElem_toArray, getElem_cons_zero, getElem_cons_succ]
        go_wp2_with fail
        first | exact ⟨rfl, rfl, rfl⟩ | rfl
      refine wpT_actL (i := 6) rfl rfl ?_
      simp only [getElem_toArray, getElem_cons_zero, getElem_cons_succ]
      go_wp2_with (first
        | (go_at_call 95; refine (right22_calls x0 _ r0 s0).mono ?_; rintro e w1 ⟨rfl, rfl⟩)
        | fail)
      refine OnT.mk rfl ?_ ?_
      · exact hT
      clear hT
      intro wn hT
      apply wpT_read (i := 7) rfl hT rfl
      · intro w' hT'
        simp only [getElem_toArray, getElem_cons_zero, getElem_cons_succ]
        go_wp2_with fail
        first | exact ⟨rfl, rfl, rfl⟩ | rfl
      apply wpT_read (i := 8) rfl hT rfl
      · intro w' hT'
        simp only [getElem_toArray, getElem_cons_zero, getElem_cons_succ]
        go_wp2_with fail
        first | exact ⟨rfl, rfl, rfl⟩ | rfl
      apply wpT_read (i := 9) rfl hT rfl
      · intro w' hT'
        simp only [getElem_toArray, getElem_cons_zero, getElem_cons_succ]
        go_wp2_with fail
        first | exact ⟨rfl, rfl, rfl⟩ | rfl
      apply wpT_read (i := 10) rfl hT rfl
      · intro w' hT'
        simp only [getElem_toArray, getElem_cons_zero, getElem_cons_succ]
        have cx1 : w'.cell? ⟨g6, 1, none⟩ = some (.int .u32 x1) := hT'.cell 0 rfl 1
        have cx2 : w'.cell? ⟨g6, 2, none⟩ = some (.int .u32 x2) := hT'.cell 0 rfl 2
        go_wp2_with fail
        first | exact ⟨rfl, rfl, rfl⟩ | rfl
      apply wpT_read (i := 11) rfl hT rfl
      · intro w' hT'
        simp only [getElem_toArray, getElem_cons_zero, getElem_cons_succ]
        go_wp2_with fail
        first | exact ⟨rfl, rfl, rfl⟩ | rfl
      apply wpT_read (i := 12) rfl hT rfl
      · intro w' hT'
        simp only [getElem_toArray, getElem_cons_zero, getElem_cons_succ]
        go_wp2_with fail
        first | exact ⟨rfl, rfl, rfl⟩ | rfl
      apply wpT_read (i := 13) rfl hT rfl
      · intro w' hT'
        simp only [getElem_toArray, getElem_cons_zero, getElem_cons_succ]
        go_wp2_with fail
        first | exact ⟨rfl, rfl, rfl⟩ | rfl
      apply wpT_read (i := 14) rfl hT rfl
      · intro w' hT'
        simp only [getElem_toArray, getElem_cons_zero, getElem_cons_succ]
        have cx1 : w'.cell? ⟨g6, 1, none⟩ = some (.int .u32 x1) := hT'.cell 0 rfl 1
        have cx2 : w'.cell? ⟨g6, 2, none⟩ = some (.int .u32 x2) := hT'.cell 0 rfl 2
        go_wp2_with fail
        first | exact ⟨rfl, rfl, rfl⟩ | rfl
      apply wpT_read (i := 15) rfl hT rfl
      · intro w' hT'
        simp only [getElem_toArray, getElem_cons_zero, getElem_cons_succ]
        go_wp2_with fail
        first | exact ⟨rfl, rfl, rfl⟩ | rfl
      apply wpT_read (i := 16) rfl hT rfl
      · intro w' hT'
        simp only [getElem_toArray, getElem_cons_zero, getElem_cons_succ]
        go_wp2_with fail
        first | exact ⟨rfl, rfl, rfl⟩ | rfl
      apply wpT_read (i := 17) rfl hT rfl
      · intro w' hT'
        simp only [getElem_toArray, getElem_cons_zero, getElem_cons_succ]
        go_wp2_with fail
        first | exact ⟨rfl, rfl, rfl⟩ | rfl
      apply wpT_read (i := 18) rfl hT rfl
      · intro w' hT'
        simp only [getElem_toArray, getElem_cons_zero, getElem_cons_succ]
        have cx1 : w'.cell? ⟨g6, 1, none⟩ = some (.int .u32 x1) := hT'.cell 0 rfl 1
        have cx2 : w'.cell? ⟨g6, 2, none⟩ = some (.int .u32 x2) := hT'.cell 0 rfl 2
        go_wp2_with fail
        first | exact ⟨rfl, rfl, rfl⟩ | rfl
      apply wpT_read (i := 19) rfl hT rfl
      · intro w' hT'
        simp only [getElem_toArray, getElem_cons_zero, getElem_cons_succ]
        go_wp2_with fail
        first | exact ⟨rfl, rfl, rfl⟩ | rfl
      apply wpT_read (i := 20) rfl hT rfl
      · intro w' hT'
        simp only [getElem_toArray, getElem_cons_zero, getElem_cons_succ]
        have cx1 : w'.cell? ⟨g6, 1, none⟩ = some (.int .u32 x1) := hT'.cell 0 rfl 1
        have cx2 : w'.cell? ⟨g6, 2, none⟩ = some (.int .u32 x2) := hT'.cell 0 rfl 2
        go_wp2_with fail
        first | exact ⟨rfl, rfl, rfl⟩ | rfl
      apply wpT_read (i := 21) rfl hT rfl
      · intro w' hT'
        simp only [getElem_toArray, getElem_cons_zero, getElem_cons_succ]
        go_wp2_with fail
        first | exact ⟨rfl, rfl, rfl⟩ | rfl
      apply wpT_read (i := 22) rfl hT rfl
      · intro w' hT'
        simp only [getElem_toArray, getElem_cons_zero, getElem_cons_succ]
        go_wp2_with fail
        first | exact ⟨rfl, rfl, rfl⟩ | rfl
      apply wpT_read (i := 23) rfl hT rfl
      · intro w' hT'
        simp only [getElem_toArray, getElem_cons_zero, getElem_cons_succ]
        go_wp2_with fail
        first | exact ⟨rfl, rfl, rfl⟩ | rfl
      apply wpT_read (i := 24) rfl hT rfl
      · intro w' hT'
        simp only [getElem_toArray, getElem_cons_zero, getElem_cons_succ]
        go_wp2_with fail
        first | exact ⟨rfl, rfl, rfl⟩ | rfl
      refine wpT_end ?_
      try dsimp only
      have HST : Hd (stepS ws [x0, x1, x2, x3, x4, x5, x6, x7] i = [((x7 + Sig 6 11 25 x4 + bits .xor .u32 (bits .and .u32 x4 x5) (bits .and .u32 (bits .xor .u32 IntKind.u32.max x4) x6) + ki + wi) + (Sig 2 13 22 x0 + bits .xor .u32 (bits .xor .u32 (bits .and .u32 x0 x1) (bits .and .u32 x0 x2)) (bits .and .u32 x1 x2))) % 4294967296, x0, x1, x2, (x3 + (x7 + Sig 6 11 25 x4 + bits .xor .u32 (bits .and .u32 x4 x5) (bits .and .u32 (bits .xor .u32 IntKind.u32.max x4) x6) + ki + wi)) % 4294967296, x4, x5, x6]) := hid (by unfold stepS oneS twoS; rw [hks.out, hki.out, hwi.out]; rfl)
      replace hS := hT
      clear hT
      have cx0 : wn.cell? ⟨g6, 0, none⟩ = some (.int .u32 x0) := hS.cell 0 rfl 0
      have cx1 : wn.cell? ⟨g6, 1, none⟩ = some (.int .u32 x1) := hS.cell 0 rfl 1
      have cx2 : wn.cell? ⟨g6, 2, none⟩ = some (.int .u32 x2) := hS.cell 0 rfl 2
      have cx3 : wn.cell? ⟨g6, 3, none⟩ = some (.int .u32 x3) := hS.cell 0 rfl 3
      have cx4 : wn.cell? ⟨g6, 4, none⟩ = some (.int .u32 x4) := hS.cell 0 rfl 4
      have cx5 : wn.cell? ⟨g6, 5, none⟩ = some (.int .u32 x5) := hS.cell 0 rfl 5
      have cx6 : wn.cell? ⟨g6, 6, none⟩ = some (.int .u32 x6) := hS.cell 0 rfl 6
      have cx7 : wn.cell? ⟨g6, 7, none⟩ = some (.int .u32 x7) := hS.cell 0 rfl 7
      go_wp2_with (first
        | (refine hs_storeW hS 0 rfl rfl 108 _ _ rfl rfl (ints .u32 (stepS ws [x0, x1, x2, x3, x4, x5, x6, x7] i)) (by rw [HST.out]; rfl) (ints_one' _ _) _ infoW8 (by rfl) (by rfl) _ rfl ?_
           rw [← HX.out]; clear hS; intro wy hS)
        | fail)
      go_roundg (gk - 1)
      case measure => have := hq.out; omega
      case rel => exact ⟨i + 1, by omega, by go_num, hid (by have := hq.out; omega), hS⟩
    · obtain rfl : i = 64 := by omega
      have R := roundsS_W32 b h hh 64
      have HL8 := hid (roundsS_length b h HL.out 64)
      have HF : Hd (topS h (roundsS b h 64) 8 = shaBlock h b) := hid rfl
      generalize roundsS b h 64 = ss at *
      have hS0 : MS w wr gh g4 g5 g6 (topS h ss 0) ws ks ss vr vn := hS
      clear hS hlt hi hq
      go_wp2_with fail
      go_loopg [12, 102] 9 (fun kq v12 v102 wr => ∃ i : Nat, i ≤ 8 ∧ v102 = .int .i64 i ∧ Hd (kq + i = 9) ∧ MS w wr gh g4 g5 g6 (topS h ss i) ws ks ss vr vn)
      case atStart => exact ⟨0, by omega, rfl, hid (by omega), hS0⟩
      case round =>
        clear hS0
        obtain ⟨i, hi, rfl, hq, hS⟩ := hrel
        by_cases hlt : i < 8
        · have hlt2 : (i : Int) < 8 := by omega
          have HX := hid (topS_succ h ss i)
          have HTL : Hd ((topS h ss i).length = 8) := hid (by simp [HL.out])
          have e1 := topS_rd h ss i i (Nat.le_refl _)
          generalize topS h ss i = ts at *
          obtain ⟨x, hx⟩ : ∃ x, rd h i = x := ⟨_, rfl⟩
          obtain ⟨y, hy⟩ : ∃ y, rd ss i = y := ⟨_, rfl⟩
          obtain ⟨rx, sx⟩ : W32 x := hx ▸ rd_all hh zero_W32 _
          obtain ⟨ry, sy⟩ : W32 y := hy ▸ rd_all R zero_W32 _
          rw [hx] at e1
          rw [hx, hy] at HX
          have C1 : Hd (∀ {w'}, MS w w' gh g4 g5 g6 ts ws ks ss vr vn → w'.cell? ⟨gh, i, none⟩ = some (.int .u32 x)) := hid fun h => by rw [h.cell 3 rfl i, List.getElem?_append_left (by rw [ints_length, HTL.out]; exact hlt), ints_get _ _ _ (by rw [HTL.out]; exact hlt), e1]
          have C2 : Hd (∀ {w'}, MS w w' gh g4 g5 g6 ts ws ks ss vr vn → w'.cell? ⟨g6, i, none⟩ = some (.int .u32 y)) := hid fun h => by rw [h.cellI 0 rfl i (by rw [HL8.out]; exact hlt), hy]
          clear e1 hx hy
          try go_wp2_with fail
          refine wp_region_L (T := fun w' => MS w w' gh g4 g5 g6 ts ws ks ss vr vn) (by kernel_rfl) (by kernel_rfl) hS.drew ?_
          intro wa hT
          show wpT _ _ _ _ [0, 1, 2, 3, 4, 5, 6, 7, 8, 9, 10, 11, 12, 13] _ _
          apply wpT_read (i := 0) rfl hT rfl
          · intro w' hT'
            simp only [getElem_toArray, getElem_cons_zero, getElem_cons_succ]
            go_wp2_with fail
            first | exact ⟨rfl, rfl, rfl⟩ | rfl
          apply wpT_read (i := 1) rfl hT rfl
          · intro w' hT'
            simp only [getElem_toArray, getElem_cons_zero, getElem_cons_succ]
            go_wp2_with fail
            first | exact ⟨rfl, rfl, rfl⟩ | rfl
          apply wpT_read (i := 2) rfl hT rfl
          · intro w' hT'
            simp only [getElem_toArray, getElem_cons_zero, getElem_cons_succ]
            go_wp2_with fail
            first | exact ⟨rfl, rfl, rfl⟩ | rfl
          apply wpT_read (i := 3) rfl hT rfl
          · intro w' hT'
            simp only [getElem_toArray, getElem_cons_zero, getElem_cons_succ]
            go_wp2_with fail
            first | exact ⟨rfl, rfl, rfl⟩ | rfl
          apply wpT_read (i := 4) rfl hT rfl
          · intro w' hT'
            simp only [getElem_toArray, getElem_cons_zero, getElem_cons_succ]
            go_wp2_with fail
            first | exact ⟨rfl, rfl, rfl⟩ | rfl
          apply wpT_read (i := 5) rfl hT rfl
          · intro w' hT'
            simp only [getElem_toArray, getElem_cons_zero, getElem_cons_succ]
            have c1 := C1.out hT'
            have c2 := C2.out hT'
            go_wp2_with fail
            first | exact ⟨rfl, rfl, rfl⟩ | rfl
          apply wpT_read (i := 6) rfl hT rfl
          · intro w' hT'
            simp only [getElem_toArray, getElem_cons_zero, getElem_cons_succ]
            go_wp2_with fail
            first | exact ⟨rfl, rfl, rfl⟩ | rfl
          apply wpT_read (i := 7) rfl hT rfl
          · intro w' hT'
            simp only [getElem_toArray, getElem_cons_zero, getElem_cons_succ]
            go_wp2_with fail
            first | exact ⟨rfl, rfl, rfl⟩ | rfl
          apply wpT_read (i := 8) rfl hT rfl
          · intro w' hT'
            simp only [getElem_toArray, getElem_cons_zero, getElem_cons_succ]
            have c1 := C1.out hT'
            have c2 := C2.out hT'
            go_wp2_with fail
            first | exact ⟨rfl, rfl, rfl⟩ | rfl
          apply wpT_read (i := 9) rfl hT rfl
          · intro w' hT'
            simp only [getElem_toArray, getElem_cons_zero, getElem_cons_succ]
            go_wp2_with fail
            first | exact ⟨rfl, rfl, rfl⟩ | rfl
          apply wpT_read (i := 10) rfl hT rfl
          · intro w' hT'
            simp only [getElem_toArray, getElem_cons_zero, getElem_cons_succ]
            go_wp2_with fail
            first | exact ⟨rfl, rfl, rfl⟩ | rfl
          apply wpT_read (i := 11) rfl hT rfl
          · intro w' hT'
            simp only [getElem_toArray, getElem_cons_zero, getElem_cons_succ]
            go_wp2_with fail
            first | exact ⟨rfl, rfl, rfl⟩ | rfl
          apply wpT_read (i := 12) rfl hT rfl
          · intro w' hT'
            simp only [getElem_toArray, getElem_cons_zero, getElem_cons_succ]
            go_wp2_with fail
            first | exact ⟨rfl, rfl, rfl⟩ | rfl
          refine wpT_totL (i := 13) rfl rfl (by kernel_rfl) ?_
          simp only [getElem_toArray, getElem_cons_zero, getElem_cons_succ]
          have fz := hT.frozen 3 rfl i
          have cc := C1.out hT
          go_wp2_with fail
          refine OnX.mk (fun w' => MS w w' gh g4 g5 g6 (topS h ss (i + 1)) ws ks ss vr vn) rfl ?_ ?_
          · have h9 := hT.setCell 3 rfl i (.int .u32 ((x + y) % 4294967296)); rw [List.set_append_left _ _ (by rw [ints_length, HTL.out]; exact hlt), ints_set] at h9; rw [HX.out]; exact h9
          clear hT
          clear fz cc
          intro w12_13 hT
          refine wpT_end ?_
          try dsimp only
          go_wp2_with fail
          go_roundg (gk - 1)
          case measure => have := hq.out; omega
          case rel => exact ⟨i + 1, by omega, by go_num, hid (by have := hq.out; omega), hT⟩
        · obtain rfl : i = 8 := by omega
          rw [HF.out] at hS
          go_wp2_with fail
          exact Go.Cour.bodyPost_void rfl rfl ⟨rfl, hS.upd, hS.blk 3 rfl⟩
end Go.Proofs.YtlikinglgegclaaGreatDoor
/- The program's digest on its way: New, Write. -/
namespace Go.Proofs.YtlikinglgegclaaGreatDoor
open Go.RowKit Go.Cour
def B8 (x : Int) : Prop := 0 ≤ x ∧ x < 256
theorem zero_B8 : B8 0 := ⟨by decide, by decide⟩
/-- So many blocks of a text, taken in. -/
def blocksS (h xs : List Int) (q : Nat) : List Int := (List.range q).foldl (fun h i => shaBlock h ((xs.drop (64 * i)).take 64)) h
theorem blocksS_succ (h xs : List Int) (q : Nat) : blocksS h xs (q + 1) = shaBlock (blocksS h xs q) ((xs.drop (64 * q)).take 64) := by simp [blocksS, List.range_succ]
theorem blocksS_length (h xs : List Int) (hl : h.length = 8) (q : Nat) : (blocksS h xs q).length = 8 := by
  induction q with
  | zero => simpa [blocksS] using hl
  | succ q ih => rw [blocksS_succ, shaBlock_length, ih]
theorem blocksS_W32 (h xs : List Int) (hh : ∀ x ∈ h, W32 x) (q : Nat) : ∀ x ∈ blocksS h xs q, W32 x := by
  induction q with
  | zero => simpa [blocksS] using hh
  | succ q ih => rw [blocksS_succ]; exact shaBlock_W32 _ _ ih
/-- The cells of a digest on its way. -/
def shaC (h : List Int) (vr : Value) (n : Int) : List Value := ints .u32 h ++ [vr, .int .u64 n]
section
variable {h : List Int} {vr v : Value} {n m : Int}
theorem shaC_get8 (hl : h.length = 8) : (shaC h vr n)[8]? = some vr := by unfold shaC; rw [List.getElem?_append_right (by simp [hl])]; simp [hl]
theorem shaC_get9 (hl : h.length = 8) : (shaC h vr n)[9]? = some (.int .u64 n) := by unfold shaC; rw [List.getElem?_append_right (by simp [hl])]; simp [hl]
theorem shaC_set8 (hl : h.length = 8) : (shaC h vr n).set 8 v = shaC h v n := by unfold shaC; rw [List.set_append_right _ _ (by simp [hl])]; simp [hl]
theorem shaC_set9 (hl : h.length = 8) : (shaC h vr n).set 9 (.int .u64 m) = shaC h vr m := by unfold shaC; rw [List.set_append_right _ _ (by simp [hl])]; simp [hl]
theorem shaC_length (hl : h.length = 8) : (shaC h vr n).length = 10 := by unfold shaC; simp [hl]
end
theorem undBytesS : Tryz.prog.underlying 29 = some (.slice 5) := by kernel_rfl
theorem infoU8S : (Tryz.prog.info? 5).map (fun i => (i.size, i.bytes)) = some (1, 1) := by kernel_rfl
theorem zeroU8S : (((Tryz.prog.info? 5).bind (·.zero)).map (·.cells.size)) = some 1 := by kernel_rfl
theorem sizeU8S : (Tryz.prog.info? 5).map (·.size) = some 1 := by kernel_rfl
theorem sizeBytesS : (Tryz.prog.info? 29).map (·.size) = some 1 := by kernel_rfl
theorem sizeU64S : (Tryz.prog.info? 107).map (·.size) = some 1 := by kernel_rfl
/-- What is there of a digest on its way. -/
abbrev SE (gh : Nat) (vr : Value) (h rest : List Int) (n : Int) : List Ent := [.blk gh 122 (shaC h vr n), .os 5 vr (ints .u8 rest)]
/-- The blocks of one. -/
def SF (gh : Nat) (vr : Value) : Nat → Prop := fun k => k = gh ∨ vr.ownBlock = some k
theorem at_of_os {w : World} {e : TypeId} {g o n c : Nat} {xs : List Int} (h : OwnS w e (.slice (some ⟨g, o, none⟩) n c) (ints .u8 xs)) (hn : 64 ≤ xs.length) : At w g o (xs.take 64) 64 := fun i hi => by
  rw [rd_take _ _ _ hi]
  exact (h.rd rfl).cellAt i (by omega)
theorem ints_drop (k : IntKind) (xs : List Int) (n : Nat) : ints k (xs.drop n) = (ints k xs).drop n := by simp [ints, List.map_drop]
set_option maxHeartbeats 2000000 in
set_option maxRecDepth 100000 in
theorem write_calls (h rest bs : List Int) (nn : Int) (gh m c : Nat) (A : Option Addr) (vr : Value) (w : World) (hb : Blk w gh 122 (shaC h vr nn)) (ho : OwnS w 5 vr (ints .u8 rest)) (hne : vr.ownBlock ≠ some gh)
    (hl : h.length = 8) (hh : ∀ x ∈ h, W32 x) (hrest : ∀ x ∈ rest, B8 x) (hbs : ∀ x ∈ bs, B8 x) (hm : bs.length = m) (hmc : m ≤ c) (hrd : Rd w A .u8 bs) (hsep : ∀ a, A = some a → bs ≠ [] → ¬ SF gh vr a.block)
    (hsz : rest.length + m ≤ 1000000000) (hnn : 0 ≤ nn ∧ nn ≤ 1000000000) :
    Calls Tryz.prog 71 #[.pointer (some ⟨gh, 0, none⟩), .slice A m c] w fun e w' => e = .returned (.tuple #[]) ∧
      ∃ vr', HS (SF gh vr) w w' (SE gh vr' (blocksS h (rest ++ bs) ((rest ++ bs).length / 64)) ((rest ++ bs).drop (64 * ((rest ++ bs).length / 64))) (nn + m)) := by
  have HM := hid hm
  have HRD := hid hrd
  have HSEP := hid hsep
  have HL := hid hl
  have hS : HS (SF gh vr) w w (SE gh vr h rest nn) :=
    ((HS.start (SF gh vr) w).take (.os 5 vr (ints .u8 rest)) ho (fun k hk => .inl (.inr hk)) (fun f hf => by simp at hf)).take (.blk gh 122 (shaC h vr nn)) hb (fun k hk => .inl (.inl hk)) (fun f hf k hk hfk => by
      simp at hf; subst hf
      have h1 : k = gh := hk
      subst h1
      exact hne hfk)
  clear hm hrd hsep hl hb ho hne
  have g8 := shaC_get8 (vr := vr) (n := nn) HL.out
  have g9 := shaC_get9 (vr := vr) (n := nn) HL.out
  have c8 : w.cell? ⟨gh, 8, none⟩ = some vr := (hS.cell 0 rfl 8).trans g8
  have c9 : w.cell? ⟨gh, 9, none⟩ = some (.int .u64 nn) := (hS.cell 0 rfl 9).trans g9
  have h10 : Hd ((shaC h vr nn).length = 10) := hid (shaC_length HL.out)
  have h10' : Hd ((shaC h vr (nn + m)).length = 10) := hid (shaC_length HL.out)
  clear g8 g9
  obtain ⟨xs, hxs⟩ : ∃ xs, Hd (rest ++ bs = xs) := ⟨_, hid rfl⟩
  obtain ⟨q, hq⟩ : ∃ q, Hd (xs.length / 64 = q) := ⟨_, hid rfl⟩
  rw [hxs.out, hq.out]
  go_enter Tryz.func71, Tryz.ntmps71
  go_wp2_with (first
    | (refine hs_store1 hS 0 rfl rfl 29 _ _ rfl 8 rfl (.slice A2 n2 c2) rfl rfl sizeBytesS (by rw [h10'.out]; decide) _ rfl ?_; clear hS; intro w3 hS; rw [shaC_set8 HL.out] at hS; have mk1 : True := trivial)
    | (have _ := mk0; refine hs_append hS 1 rfl rfl _ _ 29 rfl 1 undBytesS infoU8S zeroU8S rfl A m c rfl (ints .u8 bs) (by rw [ints_length]; exact HM.out) (news_of_rd (hS.oldRd HRD.out HSEP.out)) (ints_one' _ _) (by rw [ints_length]; omega) (by rw [ints_length]; omega) _ rfl ?_
       clear hS; intro A2 n2 c2 w2 hn2 hc2 hA2 hS; rw [← ints_append] at hS hn2; rw [ints_length] at hn2; have HN2 := hid hn2; clear hn2)
    | (refine hs_store1 hS 0 rfl rfl 107 _ _ rfl 9 rfl (.int .u64 (nn + m)) rfl rfl sizeU64S (by rw [h10.out]; decide) _ rfl ?_
       clear hS c8 c9; intro w1 hS; rw [shaC_set9 HL.out] at hS
       have c8 : w1.cell? ⟨gh, 8, none⟩ = some vr := (hS.cell 0 rfl 8).trans (shaC_get8 HL.out)
       have mk0 : True := trivial)
    | fail)
  replace hS : HS (SF gh vr) w w3 (SE gh (.slice A2 n2 c2) h (rest ++ bs) (nn + m)) := hS
  have HB8 : Hd (∀ x ∈ rest ++ bs, B8 x) := hid fun x hx => (List.mem_append.1 hx).elim (hrest x) (hbs x)
  have HNN : Hd (n2 = rest.length + m) := hid (by rw [← HN2.out, List.length_append, HM.out])
  rw [hxs.out] at hS HB8 HN2
  clear hrest hbs h10 h10'
  dsimp only [Act.put]
  go_loopg [] (q + 1) (fun kq wr => ∃ (j : Nat) (A3 : Option Addr) (n3 c3 : Nat), Hd (n3 + 64 * j = n2) ∧ Hd (kq + j = q + 1) ∧ HS (SF gh vr) w wr (SE gh (.slice A3 n3 c3) (blocksS h xs j) (xs.drop (64 * j)) (nn + m)))
  case atStart => exact ⟨0, A2, n2, c2, hid (by omega), hid (by omega), by simpa [blocksS] using hS⟩
  case round =>
    clear hS
    obtain ⟨j, A3, n3, c3, hn3, hk, hS⟩ := hrel
    have hlen := hid (hS.os 1 rfl).len
    have hnc := hlen.out.2.1
    have HLb := hid (blocksS_length h xs HL.out j)
    have c8 : wr.cell? ⟨gh, 8, none⟩ = some (.slice A3 n3 c3) := (hS.cell 0 rfl 8).trans (shaC_get8 HLb.out)
    have h10 : Hd ((shaC (blocksS h xs (j + 1)) (.slice A3 n3 c3) (nn + m)).length = 10) := hid (shaC_length (blocksS_length h xs HL.out _))
    have HLd : Hd ((xs.drop (64 * j)).length = n3) := hid (by have := hn3.out; have := HN2.out; simp; omega)
    by_cases hge : 64 ≤ n3
    · have hge2 : (64 : Int) ≤ n3 := by omega
      obtain ⟨g, o, rfl⟩ := ((hS.os 1 rfl).rd rfl).at (by rw [HLd.out]; omega)
      have hne : g ≠ gh := fun he => hS.mem.apart (i := 0) (j := 1) rfl rfl (by decide) gh rfl (by subst he; rfl)
      have hat : Hd (At wr g o ((xs.drop (64 * j)).take 64) 64) := hid (at_of_os (hS.os 1 rfl) (by rw [HLd.out]; omega))
      have hr : Hd (∀ i, 0 ≤ rd ((xs.drop (64 * j)).take 64) i ∧ rd ((xs.drop (64 * j)).take 64) i < 256) := hid (rd_all (P := B8) (fun x hx => HB8.out x (List.mem_of_mem_drop (List.mem_of_mem_take hx))) zero_B8)
      have hsu := hid (blocksS_succ h xs j)
      have hw := blocksS_W32 h xs hh j
      go_wp2_with (first
        | (refine slice_cut rfl _ _ 29 rfl 5 undBytesS sizeU8S .i64 (some ⟨g, o, none⟩) n3 c3 64 rfl rfl hge ?_)
        | (refine hs_store1 hS 0 rfl rfl 29 _ _ rfl 8 rfl (.slice (cutA (some ⟨g, o, none⟩) c3 64) (n3 - 64) (c3 - 64)) rfl rfl sizeBytesS (by rw [h10.out]; decide) _ rfl ?_
           clear hS c8; intro w6 hS; rw [shaC_set8 (blocksS_length h xs HL.out _)] at hS)
        | (go_at_call 85; refine (mix_calls (blocksS h xs j) ((xs.drop (64 * j)).take 64) gh g o 64 c3 (.slice (some ⟨g, o, none⟩) n3 c3) (.int .u64 (nn + m)) _ (hS.blk 0 rfl) HLb.out hw hat.out hne hr.out (Nat.le_refl _)).mono ?_
           rintro e w5 ⟨rfl, hu, hb5⟩
           rw [← hsu.out] at hb5
           replace hS : HS (SF gh vr) w w5 (SE gh (.slice (some ⟨g, o, none⟩) n3 c3) (blocksS h xs (j + 1)) (xs.drop (64 * j)) (nn + m)) := hS.upd1 0 rfl hu (.blk gh 122 (shaC (blocksS h xs (j + 1)) (.slice (some ⟨g, o, none⟩) n3 c3) (nn + m))) hb5 (fun k hk => .inl hk)
           clear c8 hu hb5
           have c8 : w5.cell? ⟨gh, 8, none⟩ = some (.slice (some ⟨g, o, none⟩) n3 c3) := (hS.cell 0 rfl 8).trans (shaC_get8 (blocksS_length h xs HL.out _)))
        | fail)
      have hcut := (hS.os 1 rfl).cut 64 hge
      rw [← ints_drop, List.drop_drop] at hcut
      have hS2 := hS.upd1 1 rfl (Upd.refl _ _) (.os 5 (.slice (cutA (some ⟨g, o, none⟩) c3 64) (n3 - 64) (c3 - 64)) (ints .u8 (xs.drop (64 * j + 64)))) hcut (fun k hk => .inl (cutA_own k hk))
      go_roundg (gk - 1)
      case measure => have := hk.out; have := hn3.out; have := hq.out; have := HN2.out; omega
      case rel => exact ⟨j + 1, _, n3 - 64, c3 - 64, hid (by have := hn3.out; omega), hid (by have := hk.out; have := hn3.out; have := hq.out; have := HN2.out; omega), hS2⟩
    · have hlt2 : (n3 : Int) < 64 := by omega
      have hlt3 : n3 < 64 := by omega
      obtain rfl : j = q := by have := hk.out; have := hn3.out; have := hq.out; have := HN2.out; omega
      go_wp2_with fail
      exact bodyPost_void rfl rfl ⟨rfl, _, hS⟩
end Go.Proofs.YtlikinglgegclaaGreatDoor
/- The digest of a text, as a function of lists; the program's digest told. -/
namespace Go.Proofs.YtlikinglgegclaaGreatDoor
open Go.RowKit Go.Cour
def shaH0 : List Int := [1779033703, 3144134277, 1013904242, 2773480762, 1359893119, 2600822924, 528734635, 1541459225]
theorem shaH0_W32 : ∀ x ∈ shaH0, W32 x := by unfold W32; decide
/-- Byte i of a length. -/
def lenB (n : Nat) (i : Nat) : Int := (n : Int) * 8 / 2 ^ (56 - 8 * i) % 256
def lenBs (n k : Nat) : List Int := (List.range k).map (lenB n)
theorem lenBs_succ (n k : Nat) : lenBs n (k + 1) = lenBs n k ++ [lenB n k] := by simp [lenBs, List.range_succ]
/-- How many zeros. -/
def padZ (n : Nat) : Nat := (119 - n % 64) % 64
/-- What is behind a text. -/
def padOf (n : Nat) : List Int := [128] ++ List.replicate (padZ n) 0 ++ lenBs n 8
theorem padOf_length (n : Nat) : (n + (padOf n).length) % 64 = 0 := by simp [padOf, lenBs, padZ]; omega
theorem padOf_B8 (n : Nat) : ∀ x ∈ padOf n, B8 x := fun x hx => by
  unfold padOf at hx
  rcases List.mem_append.1 hx with hx | hx
  · rcases List.mem_append.1 hx with hx | hx
    · simp at hx; subst hx; exact ⟨by decide, by decide⟩
    · rw [List.mem_replicate] at hx; rw [hx.2]; exact zero_B8
  · unfold lenBs at hx
    obtain ⟨i, _, rfl⟩ := List.mem_map.1 hx
    exact ⟨Int.emod_nonneg _ (by decide), Int.emod_lt_of_pos _ (by decide)⟩
/-- Byte i of the digest. -/
def outB (h : List Int) (i : Nat) : Int := rd h (i / 4) / 2 ^ (24 - 8 * (i % 4)) % 256
def outSh (h : List Int) (k : Nat) : List Int := (List.range k).foldl (fun x i => x.set i (outB h i)) (List.replicate 32 0)
theorem outSh_succ (h : List Int) (k : Nat) : outSh h (k + 1) = (outSh h k).set k (outB h k) := by simp [outSh, List.range_succ]
@[simp] theorem outSh_length (h : List Int) (k : Nat) : (outSh h k).length = 32 := by
  induction k with
  | zero => simp [outSh]
  | succ k ih => rw [outSh_succ]; simpa using ih
/-- The digest. -/
def shaOf (xs : List Int) : List Int := outSh (blocksS shaH0 (xs ++ padOf xs.length) ((xs ++ padOf xs.length).length / 64)) 32
theorem shaOf_length (xs : List Int) : (shaOf xs).length = 32 := outSh_length _ _
theorem outS_B8 (h : List Int) (k : Nat) : ∀ x ∈ outSh h k, B8 x := by
  induction k with
  | zero => intro x hx; simp [outSh] at hx; rw [hx]; exact zero_B8
  | succ k ih => rw [outSh_succ]; exact set_all ih ⟨Int.emod_nonneg _ (by decide), Int.emod_lt_of_pos _ (by decide)⟩
theorem shaOf_B8 (xs : List Int) : ∀ x ∈ shaOf xs, B8 x := outS_B8 _ _
theorem blocksS_prefix (h xs ys : List Int) (q : Nat) (hq : 64 * q ≤ xs.length) : blocksS h (xs ++ ys) q = blocksS h xs q := by
  induction q with
  | zero => simp [blocksS]
  | succ q ih =>
    rw [blocksS_succ, blocksS_succ, ih (by omega), List.drop_append_of_le_length (by omega), List.take_append_of_le_length (by rw [List.length_drop]; omega)]
theorem blocksS_add (h xs : List Int) (q r : Nat) : blocksS (blocksS h xs q) (xs.drop (64 * q)) r = blocksS h xs (q + r) := by
  induction r with
  | zero => simp [blocksS]
  | succ r ih => rw [blocksS_succ, ih, ← Nat.add_assoc, blocksS_succ, List.drop_drop, Nat.mul_add]
/-- What is there behind a text's being written. -/
def hOf (xs : List Int) : List Int := blocksS shaH0 xs (xs.length / 64)
def restOf (xs : List Int) : List Int := xs.drop (64 * (xs.length / 64))
theorem hOf_length (xs : List Int) : (hOf xs).length = 8 := blocksS_length _ _ (by rfl) _
theorem hOf_W32 (xs : List Int) : ∀ x ∈ hOf xs, W32 x := blocksS_W32 _ _ shaH0_W32 _
theorem restOf_length (xs : List Int) : (restOf xs).length = xs.length % 64 := by unfold restOf; rw [List.length_drop]; omega
theorem rest_append (xs ys : List Int) : restOf xs ++ ys = (xs ++ ys).drop (64 * (xs.length / 64)) := by
  unfold restOf; rw [List.drop_append_of_le_length (by omega)]
theorem hOf_append (xs ys : List Int) : blocksS (hOf xs) (restOf xs ++ ys) ((restOf xs ++ ys).length / 64) = hOf (xs ++ ys) := by
  unfold hOf
  rw [rest_append, ← blocksS_prefix shaH0 xs ys _ (by omega), blocksS_add]
  congr 1
  rw [List.length_drop, List.length_append]; omega
theorem restOf_append (xs ys : List Int) : (restOf xs ++ ys).drop (64 * ((restOf xs ++ ys).length / 64)) = restOf (xs ++ ys) := by
  rw [rest_append, List.drop_drop]
  unfold restOf
  congr 1
  rw [List.length_drop, List.length_append]; omega
theorem shaOf_eq (xs : List Int) : shaOf xs = outSh (blocksS (hOf xs) (restOf xs ++ padOf xs.length) ((restOf xs ++ padOf xs.length).length / 64)) 32 := by
  rw [hOf_append]; rfl
theorem eight : ∀ {hs : List Int}, hs.length = 8 → ∃ x0 x1 x2 x3 x4 x5 x6 x7, hs = [x0, x1, x2, x3, x4, x5, x6, x7]
  | [x0, x1, x2, x3, x4, x5, x6, x7], _ => ⟨_, _, _, _, _, _, _, _, rfl⟩
theorem zeroU8S' : ((Tryz.prog.info? 5).bind (·.zero)).isSome = true := by kernel_rfl
theorem builtSha8 (x0 x1 x2 x3 x4 x5 x6 x7 : Int) (A1 : Option Addr) (n1 c1 : Nat) : Tryz.prog.built 122 [(0, .agg (ints .u32 [x0, x1, x2, x3, x4, x5, x6, x7]).toArray), (1, .slice A1 n1 c1)] = some (shaC [x0, x1, x2, x3, x4, x5, x6, x7] (.slice A1 n1 c1) 0).toArray := by kernel_rfl
theorem builtSha (hs : List Int) (hl : hs.length = 8) (A1 : Option Addr) (n1 c1 : Nat) : Tryz.prog.built 122 [(0, .agg (ints .u32 hs).toArray), (1, .slice A1 n1 c1)] = some (shaC hs (.slice A1 n1 c1) 0).toArray := by
  obtain ⟨_, _, _, _, _, _, _, _, rfl⟩ := eight hl
  exact builtSha8 _ _ _ _ _ _ _ _ _ _ _
theorem infoHashS : (Tryz.prog.info? 25).map (·.size) = some 32 := by kernel_rfl
theorem arrHashS : Tryz.prog.underlying 25 = some (.array 32 5) := by kernel_rfl
theorem zeroHashS : ((Tryz.prog.info? 25).bind (·.zero)).map (·.cells) = some (ints .u8 (List.replicate 32 0)).toArray := by kernel_rfl
abbrev Z32 (g : Nat) : Ent := .blk g 25 (ints .u8 (List.replicate 32 0))
/-- What the blocks of Hash.Sum hold. -/
abbrev SSh (w wr : World) (g2 g3 : Nat) (hs : List Int) (A : Option Addr) (n c : Nat) (ts : List Int) : Prop :=
  HS NoF w wr [.blk g3 122 (shaC hs (.slice A n c) 0), .os 5 (.slice A n c) (ints .u8 ts), Z32 g2]
set_option maxHeartbeats 2000000 in
set_option maxRecDepth 100000 in
theorem sumH_calls (xs : List Int) (gh : Nat) (vr : Value) (w : World) (hb : Blk w gh 122 (shaC (hOf xs) vr xs.length)) (ho : OwnS w 5 vr (ints .u8 (restOf xs))) (hne : vr.ownBlock ≠ some gh) (hx : ∀ x ∈ xs, B8 x) (hsz : xs.length ≤ 1000000000) :
    Calls Tryz.prog 72 #[.pointer (some ⟨gh, 0, none⟩)] w fun e w' => e = .returned (.agg (ints .u8 (shaOf xs)).toArray) ∧ Below w.heap.size w w' := by
  have hS := HS.start NoF w
  have HB := hid hb
  obtain ⟨A, c, rfl, hnc, _, hA, _, _⟩ := ho.parts
  have HO := hid ho
  obtain ⟨n, hn⟩ : ∃ n, Hd ((ints .u8 (restOf xs)).length = n) := ⟨_, hid rfl⟩
  rw [hn.out] at HB HO hnc
  obtain ⟨hs, hhs⟩ : ∃ hs, Hd (hOf xs = hs) := ⟨_, hid rfl⟩
  obtain ⟨rs, hrs⟩ : ∃ rs, Hd (restOf xs = rs) := ⟨_, hid rfl⟩
  have hl8 := hOf_length xs
  have HW : Hd (∀ x ∈ hs, W32 x) := hid (hhs.out ▸ hOf_W32 xs)
  have HRL : Hd (rs.length = xs.length % 64) := hid (hrs.out ▸ restOf_length xs)
  have HRB : Hd (∀ x ∈ rs, B8 x) := hid (hrs.out ▸ fun x hx' => hx x (List.mem_of_mem_drop hx'))
  have HEQ := hid (shaOf_eq xs)
  rw [hhs.out, hrs.out] at HEQ
  rw [hhs.out] at HB hl8
  rw [hrs.out] at HO hn
  obtain ⟨N, hN⟩ : ∃ N, Hd (xs.length = N) := ⟨_, hid rfl⟩
  rw [hN.out] at HB HEQ HRL hsz
  clear hx
  have HL := hid hl8
  clear hl8
  have hn64 : n ≤ 64 := by have h1 := hn.out; have h2 := HRL.out; rw [ints_length] at h1; omega
  have g8 := hid (shaC_get8 (vr := .slice A n c) (n := (N : Int)) HL.out)
  have g9 := hid (shaC_get9 (vr := .slice A n c) (n := (N : Int)) HL.out)
  clear hb ho hne
  go_enter Tryz.func72, Tryz.ntmps72
  go_wp2_with (first
    | (refine alloc_blk rfl 25 rfl _ rfl (ints .u8 (List.replicate 32 0)) zeroHashS ?_; intro g2 w2 hga hba hBa hsa; replace hS := hS.pushBlk hBa hba hga; clear hga hba hBa hsa)
    | fail)
  try go_wp2_with fail
  refine wp_region_S (F := NoF) (w0 := w) (L0 := [Z32 g2]) [] [4, 9, 11]
    (fun iK u E => match iK with
      | _ => False)
    ([]) (by kernel_rfl) (by kernel_rfl) hS ?_
  show wpS _ _ _ _ _ _ _ _ _ _ [0, 1, 2, 3, 4, 5, 6, 7, 8, 9, 10, 11, 12] _
  apply wpS_read (i := 0) rfl rfl ⟨_, hS⟩ rfl
  · intro w' hT'
    simp only [getElem_toArray, getElem_cons_zero, getElem_cons_succ]
    go_wp2_with fail
    first | exact ⟨rfl, rfl, rfl⟩ | rfl
  apply wpS_read (i := 1) rfl rfl ⟨_, hS⟩ rfl
  · intro w' hT'
    simp only [getElem_toArray, getElem_cons_zero, getElem_cons_succ]
    go_wp2_with fail
    first | exact ⟨rfl, rfl, rfl⟩ | rfl
  apply wpS_read (i := 2) rfl rfl ⟨_, hS⟩ rfl
  · intro w' hT'
    simp only [getElem_toArray, getElem_cons_zero, getElem_cons_succ]
    go_wp2_with fail
    first | exact ⟨rfl, rfl, rfl⟩ | rfl
  apply wpS_read (i := 3) rfl rfl ⟨_, hS⟩ rfl
  · intro w' hT'
    simp only [getElem_toArray, getElem_cons_zero, getElem_cons_succ]
    have b0 := hT'.oldBlk HB.out id
    have c8 : w'.cell? ⟨gh, 8, none⟩ = some (.slice A n c) := (b0.cell 8).trans g8.out
    go_wp2_with (first
      | (refine load_in rfl 108 _ rfl gh 0 rfl (ints .u32 hs) (fun j v hv => by rw [b0.cell, Nat.zero_add]; unfold shaC; rw [List.getElem?_append_left (List.getElem?_eq_some_iff.1 hv).1]; exact hv) 8 22 arrW8 (by simp [HL.out]) infoW8 ?_)
      | (refine build_to rfl 122 _ rfl (shaC hs (.slice A1 n1 c1) 0).toArray (by rw [Array.toList_map]; exact builtSha hs HL.out A1 n1 c1) ?_)
      | fail)
    first | exact ⟨rfl, rfl, rfl⟩ | rfl
  refine wpS_hard (i := 4) rfl rfl ?_
  intro w4 hT
  simp only [getElem_toArray, getElem_cons_zero, getElem_cons_succ]
  go_wp2_with (first
    | (refine hs_empty hT rfl 29 5 rfl undBytesS zeroU8S' _ rfl ?_; clear hT; intro ge wz hge hBe hT)
    | fail)
  refine HardP.mk' ([.os 5 (.slice (some ⟨ge, 0, none⟩) 0 0) []]) rfl ?_ ?_
  · exact hT
  clear hT
  clear hge hBe
  apply wpS_read (i := 5) rfl rfl ⟨_, hS⟩ rfl
  · intro w' hT'
    simp only [getElem_toArray, getElem_cons_zero, getElem_cons_succ]
    go_wp2_with fail
    first | exact ⟨rfl, rfl, rfl⟩ | rfl
  apply wpS_read (i := 6) rfl rfl ⟨_, hS⟩ rfl
  · intro w' hT'
    simp only [getElem_toArray, getElem_cons_zero, getElem_cons_succ]
    go_wp2_with fail
    first | exact ⟨rfl, rfl, rfl⟩ | rfl
  apply wpS_read (i := 7) rfl rfl ⟨_, hS⟩ rfl
  · intro w' hT'
    simp only [getElem_toArray, getElem_cons_zero, getElem_cons_succ]
    go_wp2_with fail
    first | exact ⟨rfl, rfl, rfl⟩ | rfl
  apply wpS_read (i := 8) rfl rfl ⟨_, hS⟩ rfl
  · intro w' hT'
    simp only [getElem_toArray, getElem_cons_zero, getElem_cons_succ]
    have b0 := hT'.oldBlk HB.out id
    have c8 : w'.cell? ⟨gh, 8, none⟩ = some (.slice A n c) := (b0.cell 8).trans g8.out
    go_wp2_with (first
      | (refine load_in rfl 108 _ rfl gh 0 rfl (ints .u32 hs) (fun j v hv => by rw [b0.cell, Nat.zero_add]; unfold shaC; rw [List.getElem?_append_left (List.getElem?_eq_some_iff.1 hv).1]; exact hv) 8 22 arrW8 (by simp [HL.out]) infoW8 ?_)
      | (refine build_to rfl 122 _ rfl (shaC hs (.slice A1 n1 c1) 0).toArray (by rw [Array.toList_map]; exact builtSha hs HL.out A1 n1 c1) ?_)
      | fail)
    first | exact ⟨rfl, rfl, rfl⟩ | rfl
  refine wpS_hard (i := 9) rfl rfl ?_
  intro w9 hT
  replace hT : HS NoF w w9 [.os 5 (.slice (some ⟨ge, 0, none⟩) 0 0) [], Z32 g2] := hT
  simp only [getElem_toArray, getElem_cons_zero, getElem_cons_succ]
  go_wp2_with (first
    | (refine hs_append hT 0 rfl rfl _ _ 29 rfl 1 undBytesS infoU8S zeroU8S rfl A n c rfl (ints .u8 rs) hn.out (news_of_rd (hT.oldRd (HO.out.rd rfl) (fun _ _ _ h => h))) (ints_one' _ _) (by simp; omega) (by simp; omega) _ rfl ?_; clear hT; intro A1 n1 c1 wz hn1 hc1 hA1 hT; have HN1 := hid hn1; clear hn1)
    | fail)
  refine HardP.mk' ([.os 5 (.slice A1 n1 c1) (ints .u8 rs)]) rfl ?_ ?_
  · exact hT
  clear hT
  apply wpS_read (i := 10) rfl rfl ⟨_, hS⟩ rfl
  · intro w' hT'
    simp only [getElem_toArray, getElem_cons_zero, getElem_cons_succ]
    go_wp2_with (first
      | (refine load_in rfl 108 _ rfl gh 0 rfl (ints .u32 hs) (fun j v hv => by rw [b0.cell, Nat.zero_add]; unfold shaC; rw [List.getElem?_append_left (List.getElem?_eq_some_iff.1 hv).1]; exact hv) 8 22 arrW8 (by simp [HL.out]) infoW8 ?_)
      | (refine build_to rfl 122 _ rfl (shaC hs (.slice A1 n1 c1) 0).toArray (by rw [Array.toList_map]; exact builtSha hs HL.out A1 n1 c1) ?_)
      | fail)
    first | exact ⟨rfl, rfl, rfl⟩ | rfl
  refine wpS_hard (i := 11) rfl rfl ?_
  intro w11 hT
  replace hT : HS NoF w w11 [.os 5 (.slice A1 n1 c1) (ints .u8 rs), Z32 g2] := hT
  simp only [getElem_toArray, getElem_cons_zero, getElem_cons_succ]
  go_wp2_with (first
    | (refine box_blk rfl 122 _ rfl _ rfl (shaC hs (.slice A1 n1 c1) 0) rfl ?_; intro g3 wz hga hba hBa hsa)
    | fail)
  refine HardP.mk' ([.blk g3 122 (shaC hs (.slice A1 n1 c1) 0), .os 5 (.slice A1 n1 c1) (ints .u8 rs)]) rfl ?_ ?_
  · exact hT.pushBlk hBa hba hga
  clear hT
  clear hga hba hBa hsa
  apply wpS_read (i := 12) rfl rfl ⟨_, hS⟩ rfl
  · intro w' hT'
    simp only [getElem_toArray, getElem_cons_zero, getElem_cons_succ]
    go_wp2_with fail
    first | exact ⟨rfl, rfl, rfl⟩ | rfl
  refine wpS_end ?_
  intro wz hT
  try dsimp only
  have HNL : Hd (rs.length = n1) := hid (by have := HN1.out; simpa using this)
  have hS0 : SSh w wz g2 g3 hs A1 n1 c1 rs := hT
  clear hT hS HN1
  replace hS := hS0
  clear hS0
  have hb1 : n1 ≤ 64 := by have := HNL.out; have := HRL.out; omega
  go_wp2_with (first
    | (refine hs_load1 hS 0 rfl rfl 29 _ rfl 8 rfl (.slice A1 n1 c1) (shaC_get8 HL.out) _ undBytesS rfl _ rfl ?_)
    | (refine hs_one hS rfl 29 5 _ rfl undBytesS sizeU8S zeroU8S (.int .u8 128) rfl rfl _ rfl ?_; clear hS; intro go wo hgo hBo hS; clear hgo hBo)
    | (refine hs_append hS 2 rfl rfl _ _ 29 rfl 1 undBytesS infoU8S zeroU8S rfl (some ⟨go, 0, none⟩) 1 1 rfl (ints .u8 [128]) rfl (news_of_rd (OwnS.rd (k := .u8) (xs := [128]) (hS.os 0 rfl) rfl)) (ints_one' _ _) (by rw [ints_length, HNL.out]; omega) (by rw [ints_length, HNL.out]; omega) _ rfl ?_
       clear hS; intro A3 n3 c3 w3 hn3 hc3 hA3 hS; have HN3 := hid hn3; clear hn3
       replace hS : HS NoF w w3 [.blk g3 122 (shaC hs (.slice A1 n1 c1) 0), .os 5 (.slice A3 n3 c3) (ints .u8 (rs ++ [128])), Z32 g2] := by rw [ints_append]; exact hS.erase 0)
    | (refine hs_store1 hS 0 rfl rfl 29 _ _ rfl 8 rfl (.slice A3 n3 c3) rfl rfl sizeBytesS (by rw [shaC_length HL.out]; decide) _ rfl ?_; clear hS; intro w4 hS; rw [shaC_set8 HL.out] at hS; replace hS : SSh w w4 g2 g3 hs A3 n3 c3 (rs ++ [128]) := hS)
    | fail)
  have HNL3 : Hd (rs.length + 1 = n3) := hid (by have := HN3.out; simpa using this)
  dsimp only [Act.put]
  go_loopg [] (padZ N + 1) (fun kq wr => ∃ (k : Nat) (A1 : Option Addr) (n1 c1 : Nat), k ≤ padZ N ∧ Hd (n1 = rs.length + 1 + k) ∧ Hd (kq + k = padZ N + 1) ∧ SSh w wr g2 g3 hs A1 n1 c1 (rs ++ [128] ++ List.replicate k 0))
  case atStart => exact ⟨0, A3, n3, c3, Nat.zero_le _, hid HNL3.out.symm, hid (by omega), by simpa using hS⟩
  case round =>
    clear hS HN3 HNL3
    obtain ⟨k, A1, n1, c1, hk, hn1, hq, hS⟩ := hrel
    have hr := HRL.out
    have hlt64 : N % 64 < 64 := Nat.mod_lt _ (by decide)
    have hpz : Hd (padZ N = (119 - N % 64) % 64) := hid rfl
    by_cases hlt : k < padZ N
    · have h56 : ¬ (n1 : Int) % 64 = 56 := by have := hn1.out; have := hpz.out; omega
      have h56' : ¬ n1 % 64 = 56 := by have := hn1.out; have := hpz.out; omega
      have hb1 : n1 ≤ 200 := by have := hn1.out; have := hpz.out; omega
      have HLT : Hd ((rs ++ [128] ++ List.replicate k 0).length = n1) := hid (by simp; have := hn1.out; omega)
      have HTS : Hd (rs ++ [128] ++ List.replicate k 0 ++ [0] = rs ++ [128] ++ List.replicate (k + 1) 0) := hid (by rw [List.append_assoc (rs ++ [128]), ← List.replicate_succ'])
      obtain ⟨ts, hts⟩ : ∃ ts, Hd (rs ++ [128] ++ List.replicate k 0 = ts) := ⟨_, hid rfl⟩
      rw [hts.out] at hS HLT HTS
      clear hr
      go_wp2_with (first
    | (refine hs_load1 hS 0 rfl rfl 29 _ rfl 8 rfl (.slice A1 n1 c1) (shaC_get8 HL.out) _ undBytesS rfl _ rfl ?_)
    | (refine hs_one hS rfl 29 5 _ rfl undBytesS sizeU8S zeroU8S (.int .u8 0) rfl rfl _ rfl ?_; clear hS; intro go wo hgo hBo hS; clear hgo hBo)
    | (refine hs_append hS 2 rfl rfl _ _ 29 rfl 1 undBytesS infoU8S zeroU8S rfl (some ⟨go, 0, none⟩) 1 1 rfl (ints .u8 [0]) rfl (news_of_rd (OwnS.rd (k := .u8) (xs := [0]) (hS.os 0 rfl) rfl)) (ints_one' _ _) (by rw [ints_length, HLT.out]; omega) (by rw [ints_length, HLT.out]; omega) _ rfl ?_
       clear hS; intro A3 n3 c3 w3 hn3 hc3 hA3 hS; have HN3 := hid hn3; clear hn3
       replace hS : HS NoF w w3 [.blk g3 122 (shaC hs (.slice A1 n1 c1) 0), .os 5 (.slice A3 n3 c3) (ints .u8 (ts ++ [0])), Z32 g2] := by rw [ints_append]; exact hS.erase 0)
    | (refine hs_store1 hS 0 rfl rfl 29 _ _ rfl 8 rfl (.slice A3 n3 c3) rfl rfl sizeBytesS (by rw [shaC_length HL.out]; decide) _ rfl ?_; clear hS; intro w4 hS; rw [shaC_set8 HL.out] at hS; replace hS : SSh w w4 g2 g3 hs A3 n3 c3 (ts ++ [0]) := hS)
    | fail)
      go_roundg (gk - 1)
      case measure => have := hq.out; omega
      case rel => exact ⟨k + 1, A3, n3, c3, by omega, hid (by have := HN3.out; have := hn1.out; have := HLT.out; simp at *; omega), hid (by have := hq.out; omega), HTS.out ▸ hS⟩
    · obtain rfl : k = padZ N := by omega
      have h56 : (n1 : Int) % 64 = 56 := by have := hn1.out; have := hpz.out; omega
      have h56' : n1 % 64 = 56 := by have := hn1.out; have := hpz.out; omega
      have c8 : wr.cell? ⟨g3, 8, none⟩ = some (.slice A1 n1 c1) := (hS.cell 0 rfl 8).trans (shaC_get8 HL.out)
      have hnb : Hd (n1 ≤ 130) := hid (by have := hn1.out; have := hpz.out; omega)
      have hn1' : Hd (n1 + 0 = rs.length + 1 + padZ N) := hid hn1.out
      clear hlt hk hq hr hlt64 hn1
      go_wp2_with fail
      clear c8 h56 h56'
      have hN8 : Hd (padOf N = [128] ++ List.replicate (padZ N) 0 ++ lenBs N 8) := hid rfl
      go_loopg [4, 44] 9 (fun kq v4 v44 wr => ∃ (k : Nat) (A1 : Option Addr) (m1 c1 : Nat), k ≤ 8 ∧ v44 = .int .i64 k ∧ Hd (m1 = n1 + k) ∧ Hd (kq + k = 9) ∧ SSh w wr g2 g3 hs A1 m1 c1 (rs ++ [128] ++ List.replicate (padZ N) 0 ++ lenBs N k))
      case atStart => exact ⟨0, A1, n1, c1, Nat.zero_le _, rfl, hid rfl, hid (by omega), by simpa [lenBs] using hS⟩
      case round =>
        clear hS
        obtain ⟨k, A1, m1, c1, hk, rfl, hm1, hq, hS⟩ := hrel
        by_cases hlt : k < 8
        · have hlt2 : (k : Int) < 8 := by omega
          obtain ⟨s, hs'⟩ : ∃ s : Nat, 56 - 8 * k = s := ⟨_, rfl⟩
          have e56 : 56 - 8 * (k : Int) = (s : Int) := by omega
          have hs64 : s ≤ 56 := by omega
          have hLB : Hd (lenB N k = (N : Int) * 8 / 2 ^ s % 256) := hid (by unfold lenB; rw [hs'])
          have HTS : Hd (rs ++ [128] ++ List.replicate (padZ N) 0 ++ lenBs N k ++ [(N : Int) * 8 / 2 ^ s % 256] = rs ++ [128] ++ List.replicate (padZ N) 0 ++ lenBs N (k + 1)) := hid (by rw [List.append_assoc, ← hLB.out, ← lenBs_succ])
          have HLT : Hd ((rs ++ [128] ++ List.replicate (padZ N) 0 ++ lenBs N k).length = m1) := hid (by simp [lenBs]; have := hm1.out; have := hn1'.out; omega)
          have hmb : m1 ≤ 200 := by have := hm1.out; have := hnb.out; omega
          obtain ⟨ts, hts⟩ : ∃ ts, Hd (rs ++ [128] ++ List.replicate (padZ N) 0 ++ lenBs N k = ts) := ⟨_, hid rfl⟩
          rw [hts.out] at hS HLT HTS
          obtain ⟨B, hBB⟩ : ∃ B, Hd ((N : Int) * 8 / 2 ^ s % 256 = B) := ⟨_, hid rfl⟩
          clear hs'
          go_wp2_with fail
          replace hS : HS NoF w wr ([.os 5 (.slice A1 m1 c1) (ints .u8 ts), Z32 g2] ++ [.blk g3 122 (shaC hs (.slice A1 m1 c1) 0)]) := hS.perm (List.perm_append_comm (l₁ := [Ent.blk g3 122 (shaC hs (.slice A1 m1 c1) 0)]) (l₂ := [Ent.os 5 (.slice A1 m1 c1) (ints .u8 ts), Z32 g2]))
          try go_wp2_with fail
          refine wp_region_S (F := NoF) (w0 := w) (L0 := [.blk g3 122 (shaC hs (.slice A1 m1 c1) 0)]) [] [15, 16, 19]
            (fun iK u E => match iK with
              | _ => False)
            ([.os 5 (.slice A1 m1 c1) (ints .u8 ts), Z32 g2]) (by kernel_rfl) (by kernel_rfl) hS ?_
          show wpS _ _ _ _ _ _ _ _ _ _ [0, 1, 2, 3, 4, 5, 6, 7, 8, 9, 10, 11, 12, 13, 14, 15, 16, 17, 18, 19] _
          apply wpS_read (i := 0) rfl rfl ⟨_, (HS.drop2 (E := [.os 5 (.slice A1 m1 c1) (ints .u8 ts), Z32 g2]) (L := [.blk g3 122 (shaC hs (.slice A1 m1 c1) 0)]) hS)⟩ rfl
          · intro w' hT'
            simp only [getElem_toArray, getElem_cons_zero, getElem_cons_succ]
            go_wp2_with fail
            first | exact ⟨rfl, rfl, rfl⟩ | rfl
          apply wpS_read (i := 1) rfl rfl ⟨_, (HS.drop2 (E := [.os 5 (.slice A1 m1 c1) (ints .u8 ts), Z32 g2]) (L := [.blk g3 122 (shaC hs (.slice A1 m1 c1) 0)]) hS)⟩ rfl
          · intro w' hT'
            simp only [getElem_toArray, getElem_cons_zero, getElem_cons_succ]
            go_wp2_with fail
            first | exact ⟨rfl, rfl, rfl⟩ | rfl
          apply wpS_read (i := 2) rfl rfl ⟨_, (HS.drop2 (E := [.os 5 (.slice A1 m1 c1) (ints .u8 ts), Z32 g2]) (L := [.blk g3 122 (shaC hs (.slice A1 m1 c1) 0)]) hS)⟩ rfl
          · intro w' hT'
            simp only [getElem_toArray, getElem_cons_zero, getElem_cons_succ]
            go_wp2_with fail
            first | exact ⟨rfl, rfl, rfl⟩ | rfl
          apply wpS_read (i := 3) rfl rfl ⟨_, (HS.drop2 (E := [.os 5 (.slice A1 m1 c1) (ints .u8 ts), Z32 g2]) (L := [.blk g3 122 (shaC hs (.slice A1 m1 c1) 0)]) hS)⟩ rfl
          · intro w' hT'
            simp only [getElem_toArray, getElem_cons_zero, getElem_cons_succ]
            go_wp2_with fail
            first | exact ⟨rfl, rfl, rfl⟩ | rfl
          apply wpS_read (i := 4) rfl rfl ⟨_, (HS.drop2 (E := [.os 5 (.slice A1 m1 c1) (ints .u8 ts), Z32 g2]) (L := [.blk g3 122 (shaC hs (.slice A1 m1 c1) 0)]) hS)⟩ rfl
          · intro w' hT'
            simp only [getElem_toArray, getElem_cons_zero, getElem_cons_succ]
            have b0 := hT'.oldBlk HB.out id
            have c9 : w'.cell? ⟨gh, 9, none⟩ = some (.int .u64 N) := (b0.cell 9).trans g9.out
            have c8 : w'.cell? ⟨g3, 8, none⟩ = some (.slice A1 m1 c1) := (hT'.cell 0 rfl 8).trans (shaC_get8 HL.out)
            go_wp2_with fail
            first | exact ⟨rfl, rfl, rfl⟩ | rfl
          apply wpS_read (i := 5) rfl rfl ⟨_, (HS.drop2 (E := [.os 5 (.slice A1 m1 c1) (ints .u8 ts), Z32 g2]) (L := [.blk g3 122 (shaC hs (.slice A1 m1 c1) 0)]) hS)⟩ rfl
          · intro w' hT'
            simp only [getElem_toArray, getElem_cons_zero, getElem_cons_succ]
            go_wp2_with fail
            first | exact ⟨rfl, rfl, rfl⟩ | rfl
          apply wpS_read (i := 6) rfl rfl ⟨_, (HS.drop2 (E := [.os 5 (.slice A1 m1 c1) (ints .u8 ts), Z32 g2]) (L := [.blk g3 122 (shaC hs (.slice A1 m1 c1) 0)]) hS)⟩ rfl
          · intro w' hT'
            simp only [getElem_toArray, getElem_cons_zero, getElem_cons_succ]
            go_wp2_with fail
            first | exact ⟨rfl, rfl, rfl⟩ | rfl
          apply wpS_read (i := 7) rfl rfl ⟨_, (HS.drop2 (E := [.os 5 (.slice A1 m1 c1) (ints .u8 ts), Z32 g2]) (L := [.blk g3 122 (shaC hs (.slice A1 m1 c1) 0)]) hS)⟩ rfl
          · intro w' hT'
            simp only [getElem_toArray, getElem_cons_zero, getElem_cons_succ]
            go_wp2_with fail
            first | exact ⟨rfl, rfl, rfl⟩ | rfl
          apply wpS_read (i := 8) rfl rfl ⟨_, (HS.drop2 (E := [.os 5 (.slice A1 m1 c1) (ints .u8 ts), Z32 g2]) (L := [.blk g3 122 (shaC hs (.slice A1 m1 c1) 0)]) hS)⟩ rfl
          · intro w' hT'
            simp only [getElem_toArray, getElem_cons_zero, getElem_cons_succ]
            have b0 := hT'.oldBlk HB.out id
            have c9 : w'.cell? ⟨gh, 9, none⟩ = some (.int .u64 N) := (b0.cell 9).trans g9.out
            have c8 : w'.cell? ⟨g3, 8, none⟩ = some (.slice A1 m1 c1) := (hT'.cell 0 rfl 8).trans (shaC_get8 HL.out)
            go_wp2_with fail
            first | exact ⟨rfl, rfl, rfl⟩ | rfl
          apply wpS_read (i := 9) rfl rfl ⟨_, (HS.drop2 (E := [.os 5 (.slice A1 m1 c1) (ints .u8 ts), Z32 g2]) (L := [.blk g3 122 (shaC hs (.slice A1 m1 c1) 0)]) hS)⟩ rfl
          · intro w' hT'
            simp only [getElem_toArray, getElem_cons_zero, getElem_cons_succ]
            go_wp2_with fail
            first | exact ⟨rfl, rfl, rfl⟩ | rfl
          apply wpS_read (i := 10) rfl rfl ⟨_, (HS.drop2 (E := [.os 5 (.slice A1 m1 c1) (ints .u8 ts), Z32 g2]) (L := [.blk g3 122 (shaC hs (.slice A1 m1 c1) 0)]) hS)⟩ rfl
          · intro w' hT'
            simp only [getElem_toArray, getElem_cons_zero, getElem_cons_succ]
            go_wp2_with fail
            first | exact ⟨rfl, rfl, rfl⟩ | rfl
          apply wpS_read (i := 11) rfl rfl ⟨_, (HS.drop2 (E := [.os 5 (.slice A1 m1 c1) (ints .u8 ts), Z32 g2]) (L := [.blk g3 122 (shaC hs (.slice A1 m1 c1) 0)]) hS)⟩ rfl
          · intro w' hT'
            simp only [getElem_toArray, getElem_cons_zero, getElem_cons_succ]
            go_wp2_with fail
            first | exact ⟨rfl, rfl, rfl⟩ | rfl
          apply wpS_read (i := 12) rfl rfl ⟨_, (HS.drop2 (E := [.os 5 (.slice A1 m1 c1) (ints .u8 ts), Z32 g2]) (L := [.blk g3 122 (shaC hs (.slice A1 m1 c1) 0)]) hS)⟩ rfl
          · intro w' hT'
            simp only [getElem_toArray, getElem_cons_zero, getElem_cons_succ]
            go_wp2_with fail
            first | exact ⟨rfl, rfl, rfl⟩ | rfl
          apply wpS_read (i := 13) rfl rfl ⟨_, (HS.drop2 (E := [.os 5 (.slice A1 m1 c1) (ints .u8 ts), Z32 g2]) (L := [.blk g3 122 (shaC hs (.slice A1 m1 c1) 0)]) hS)⟩ rfl
          · intro w' hT'
            simp only [getElem_toArray, getElem_cons_zero, getElem_cons_succ]
            go_wp2_with fail
            first | exact ⟨rfl, rfl, rfl⟩ | rfl
          apply wpS_read (i := 14) rfl rfl ⟨_, (HS.drop2 (E := [.os 5 (.slice A1 m1 c1) (ints .u8 ts), Z32 g2]) (L := [.blk g3 122 (shaC hs (.slice A1 m1 c1) 0)]) hS)⟩ rfl
          · intro w' hT'
            simp only [getElem_toArray, getElem_cons_zero, getElem_cons_succ]
            go_wp2_with fail
            first | exact ⟨rfl, rfl, rfl⟩ | rfl
          refine wpS_hard (i := 15) rfl rfl ?_
          intro w15 hT
          simp only [getElem_toArray, getElem_cons_zero, getElem_cons_succ]
          go_wp2_with (first
            | (rw [hBB.out]; refine hs_one hT rfl 29 5 _ rfl undBytesS sizeU8S zeroU8S (.int .u8 B) rfl rfl _ rfl ?_; clear hT; intro go wo hgo hBo hT)
            | fail)
          refine HardP.mk' ([.os 5 (.slice (some ⟨go, 0, none⟩) 1 1) (ints .u8 [B]), .os 5 (.slice A1 m1 c1) (ints .u8 ts), Z32 g2]) rfl ?_ ?_
          · exact hT
          clear hT
          clear hgo hBo
          refine wpS_hard (i := 16) rfl rfl ?_
          intro w16 hT
          replace hT : HS NoF w w16 [.os 5 (.slice (some ⟨go, 0, none⟩) 1 1) (ints .u8 [B]), .os 5 (.slice A1 m1 c1) (ints .u8 ts), Z32 g2, .blk g3 122 (shaC hs (.slice A1 m1 c1) 0)] := hT
          simp only [getElem_toArray, getElem_cons_zero, getElem_cons_succ]
          go_wp2_with (first
            | (refine hs_append hT 1 rfl rfl _ _ 29 rfl 1 undBytesS infoU8S zeroU8S rfl (some ⟨go, 0, none⟩) 1 1 rfl (ints .u8 [B]) rfl (news_of_rd (OwnS.rd (k := .u8) (xs := [B]) (hT.os 0 rfl) rfl)) (ints_one' _ _) (by rw [ints_length, HLT.out]; omega) (by rw [ints_length, HLT.out]; omega) _ rfl ?_; clear hT; intro A3 n3 c3 w3 hn3 hc3 hA3 hT; have HN3 := hid hn3; clear hn3; rw [← ints_append] at hT)
            | fail)
          refine HardP.mk' ([.os 5 (.slice (some ⟨go, 0, none⟩) 1 1) (ints .u8 [B]), .os 5 (.slice A3 n3 c3) (ints .u8 (ts ++ [B])), Z32 g2]) rfl ?_ ?_
          · exact hT
          clear hT
          apply wpS_read (i := 17) rfl rfl ⟨_, (HS.drop2 (E := [.os 5 (.slice A1 m1 c1) (ints .u8 ts), Z32 g2]) (L := [.blk g3 122 (shaC hs (.slice A1 m1 c1) 0)]) hS)⟩ rfl
          · intro w' hT'
            simp only [getElem_toArray, getElem_cons_zero, getElem_cons_succ]
            go_wp2_with fail
            first | exact ⟨rfl, rfl, rfl⟩ | rfl
          apply wpS_read (i := 18) rfl rfl ⟨_, (HS.drop2 (E := [.os 5 (.slice A1 m1 c1) (ints .u8 ts), Z32 g2]) (L := [.blk g3 122 (shaC hs (.slice A1 m1 c1) 0)]) hS)⟩ rfl
          · intro w' hT'
            simp only [getElem_toArray, getElem_cons_zero, getElem_cons_succ]
            go_wp2_with fail
            first | exact ⟨rfl, rfl, rfl⟩ | rfl
          refine wpS_tot (i := 19) rfl rfl (by kernel_rfl) ?_
          intro w19 hT
          replace hT : HS NoF w w19 [.os 5 (.slice (some ⟨go, 0, none⟩) 1 1) (ints .u8 [B]), .os 5 (.slice A3 n3 c3) (ints .u8 (ts ++ [B])), Z32 g2, .blk g3 122 (shaC hs (.slice A1 m1 c1) 0)] := hT
          simp only [getElem_toArray, getElem_cons_zero, getElem_cons_succ]
          go_wp2_with (first
            | (refine hs_store1 hT 3 rfl rfl 29 _ _ rfl 8 rfl (.slice A3 n3 c3) rfl rfl sizeBytesS (by rw [shaC_length HL.out]; decide) _ rfl ?_; clear hT; intro w4 hT; rw [shaC_set8 HL.out] at hT)
            | fail)
          refine TotP.mk' ([.os 5 (.slice (some ⟨go, 0, none⟩) 1 1) (ints .u8 [B]), .os 5 (.slice A3 n3 c3) (ints .u8 (ts ++ [B])), Z32 g2, .blk g3 122 (shaC hs (.slice A3 n3 c3) 0)]) rfl ?_ ?_
          · exact hT
          clear hT
          refine wpS_end ?_
          intro wz hT
          try dsimp only
          rw [hBB.out] at HTS
          have hS : SSh w wz g2 g3 hs A3 n3 c3 (rs ++ [128] ++ List.replicate (padZ N) 0 ++ lenBs N (k + 1)) := by
            rw [← HTS.out]
            exact (hT.erase 0).perm (List.perm_append_comm (l₁ := [Ent.os 5 (.slice A3 n3 c3) (ints .u8 (ts ++ [B])), Z32 g2]) (l₂ := [Ent.blk g3 122 (shaC hs (.slice A3 n3 c3) 0)]))
          go_wp2_with fail
          go_roundg (gk - 1)
          case measure => have := hq.out; omega
          case rel => exact ⟨k + 1, A3, n3, c3, by omega, by go_num, hid (by have h1 := HN3.out; have h2 := hm1.out; have h3 := HLT.out; simp at h1; omega), hid (by have := hq.out; omega), hS⟩
        · obtain rfl : k = 8 := by omega
          have HPAD : Hd (rs ++ [128] ++ List.replicate (padZ N) 0 ++ lenBs N 8 = rs ++ padOf N) := hid (by rw [hN8.out]; simp)
          rw [HPAD.out] at hS
          have HPB : Hd (∀ x ∈ rs ++ padOf N, B8 x) := hid fun x hx => by
            rcases List.mem_append.1 hx with hx | hx
            · exact HRB.out x hx
            · exact padOf_B8 N x hx
          have HPL : Hd ((rs ++ padOf N).length ≤ 200) := hid (by have h1 := HRL.out; have h2 := Nat.mod_lt N (show 64 > 0 by decide); simp [padOf, lenBs, padZ]; omega)
          obtain ⟨ps, hps⟩ : ∃ ps, Hd (rs ++ padOf N = ps) := ⟨_, hid rfl⟩
          rw [hps.out] at hS HPB HPL HEQ
          obtain ⟨hz, hhz⟩ : ∃ hz, Hd (blocksS hs ps (ps.length / 64) = hz) := ⟨_, hid rfl⟩
          have HZL : Hd (hz.length = 8) := hid (hhz.out ▸ blocksS_length hs ps HL.out _)
          have HZW : Hd (∀ x ∈ hz, W32 x) := hid (hhz.out ▸ blocksS_W32 hs ps HW.out _)
          rw [hhz.out] at HEQ
          have hne3 : (Value.slice A1 m1 c1).ownBlock ≠ some g3 := fun he => hS.mem.apart (i := 0) (j := 1) rfl rfl (by decide) g3 rfl he
          have hpl := HPL.out
          clear hlt hk hm1 hn1' hnb hN8
          go_wp2_with (first
            | (go_at_call 71
               refine (write_calls hs ps [] 0 g3 0 0 none (.slice A1 m1 c1) _ (hS.blk 0 rfl) (hS.os 1 rfl) hne3 HL.out HW.out HPB.out (fun x hx => by cases hx) rfl (Nat.le_refl _) (.inl rfl) (fun a ha => by cases ha) (by simp; omega) (by omega)).mono ?_
               rintro e w6 ⟨rfl, vr', hw⟩
               rw [List.append_nil, hhz.out] at hw
               replace hS : HS NoF w w6 [.blk g3 122 (shaC hz vr' 0), .os 5 vr' (ints .u8 (ps.drop (64 * (ps.length / 64)))), Z32 g2] := by
                 have h9 := HS.call (A := [Ent.blk g3 122 (shaC hs (.slice A1 m1 c1) 0), Ent.os 5 (.slice A1 m1 c1) (ints .u8 ps)]) (L := [Z32 g2]) hS hw (fun k hk => by
                   rcases hk with hk | hk
                   · exact ⟨_, List.mem_cons_self .., hk⟩
                   · exact ⟨_, List.mem_cons_of_mem _ (List.mem_cons_self ..), hk⟩)
                 exact h9
               clear hw)
            | (refine alloc_blk rfl 25 rfl _ rfl (ints .u8 (List.replicate 32 0)) zeroHashS ?_; intro g5 w7 hga hba hBa hsa; replace hS := hS.pushBlk hBa hba hga; clear hga hba hBa hsa)
            | fail)
          obtain ⟨ql, hql⟩ : ∃ ql, Hd (ps.drop (64 * (ps.length / 64)) = ql) := ⟨_, hid rfl⟩
          rw [hql.out] at hS
          replace hS : HS NoF w w7 [.blk g5 25 (ints .u8 (outSh hz 0)), .blk g3 122 (shaC hz vr' 0), .os 5 vr' (ints .u8 ql), Z32 g2] := hS
          clear hq
          go_loopg [6, 69] 33 (fun kq v6 v69 wr => ∃ k : Nat, k ≤ 32 ∧ v69 = .int .i64 k ∧ Hd (kq + k = 33) ∧ HS NoF w wr [.blk g5 25 (ints .u8 (outSh hz k)), .blk g3 122 (shaC hz vr' 0), .os 5 vr' (ints .u8 ql), Z32 g2])
          case atStart => exact ⟨0, by omega, rfl, hid (by omega), hS⟩
          case round =>
            clear hS
            obtain ⟨k, hk, rfl, hq, hS⟩ := hrel
            by_cases hlt : k < 32
            · have hlt2 : (k : Int) < 32 := by omega
              obtain ⟨j, hj⟩ : ∃ j : Nat, k / 4 = j := ⟨_, rfl⟩
              obtain ⟨r, hr⟩ : ∃ r : Nat, k % 4 = r := ⟨_, rfl⟩
              obtain ⟨s, hs'⟩ : ∃ s : Nat, 24 - 8 * r = s := ⟨_, rfl⟩
              have e1 : (k : Int) / 4 = (j : Int) := by omega
              have e2 : (k : Int) % 4 = (r : Int) := by omega
              have e3 : 24 - 8 * (r : Int) = (s : Int) := by omega
              have hj8 : j < 8 := by omega
              have hr4 : r < 4 := by omega
              have hs24 : s ≤ 24 := by omega
              have HX := hid (outSh_succ hz k)
              have HB1 : Hd (outB hz k = rd hz j / 2 ^ s % 256) := hid (by unfold outB; rw [hj, hr, hs'])
              obtain ⟨x, hx⟩ : ∃ x, rd hz j = x := ⟨_, rfl⟩
              obtain ⟨rx, sx⟩ : W32 x := hx ▸ rd_all HZW.out zero_W32 _
              rw [hx] at HB1
              have cx : wr.cell? ⟨g3, j, none⟩ = some (.int .u32 x) := by rw [hS.cell 1 rfl j]; unfold shaC; rw [List.getElem?_append_left (by simp [HZL.out]; omega), ints_get _ _ _ (by rw [HZL.out]; omega), hx]
              clear hj hr hs' hx
              go_wp2_with (first
                | (refine hs_store1 hS 0 rfl rfl 5 _ _ rfl k rfl (.int .u8 (x / 2 ^ s % 256)) rfl rfl sizeU8S (by simp; omega) _ rfl ?_
                   clear hS cx; intro w8 hS; rw [ints_set, ← HB1.out, ← HX.out] at hS)
                | fail)
              go_roundg (gk - 1)
              case measure => have := hq.out; omega
              case rel => exact ⟨k + 1, by omega, by go_num, hid (by have := hq.out; omega), hS⟩
            · obtain rfl : k = 32 := by omega
              rw [← HEQ.out] at hS
              have HLL : Hd ((shaOf xs).length = 32) := hid (shaOf_length xs)
              obtain ⟨ds, hds⟩ : ∃ ds, Hd (shaOf xs = ds) := ⟨_, hid rfl⟩
              rw [hds.out] at hS HLL HEQ
              clear hlt hk hq
              go_wp2_with (first
                | (refine hs_loadW hS 0 rfl rfl 25 _ rfl rfl 32 infoHashS (by simp [HLL.out]) _ arrHashS rfl _ rfl ?_)
                | (refine hs_storeW hS 3 rfl rfl 25 _ _ rfl rfl (ints .u8 ds) rfl (ints_one' _ _) _ infoHashS (by simp [HLL.out]) (by simp) _ rfl ?_; clear hS; intro w9 hS)
                | fail)
              refine bodyPost_ret (results_blk rfl _ _ g2 _ _ 32 _ rfl (hS.blk 3 rfl) arrHashS (by simp [HLL.out]) infoHashS) rfl ⟨by rw [hds.out], hS.bel⟩
end Go.Proofs.YtlikinglgegclaaGreatDoor
/- The program's New, and the digest of lists, one behind the other. -/
namespace Go.Proofs.YtlikinglgegclaaGreatDoor
open Go.RowKit Go.Cour
theorem builtW8 : Tryz.prog.built 122 [(0, .agg (ints .u32 shaH0).toArray)] = some (shaC shaH0 (.slice none 0 0) 0).toArray := by kernel_rfl
set_option maxRecDepth 100000 in
theorem new_calls (w : World) : Calls Tryz.prog 70 #[] w fun e w' => ∃ g, e = .returned (.pointer (some ⟨g, 0, none⟩)) ∧ HS NoF w w' [.blk g 122 (shaC shaH0 (.slice none 0 0) 0)] := by
  have hS := HS.start NoF w
  go_enter Tryz.func70, Tryz.ntmps70
  go_wp2_with (first
    | (refine wpList_buildFlatArr rfl 108 22 8 _ rfl .u32 shaH0 arrW8 sizeU32 (by kernel_rfl) (by rfl) ?_)
    | (refine build_to rfl 122 _ rfl (shaC shaH0 (.slice none 0 0) 0).toArray (by rw [Array.toList_map]; exact builtW8) ?_)
    | (refine box_blk rfl 122 _ rfl _ rfl (shaC shaH0 (.slice none 0 0) 0) rfl ?_; intro g wz hga hba hBa hsa; replace hS := hS.pushBlk hBa hba hga)
    | fail)
  go_ret
  exact ⟨g, rfl, hS⟩
/-- Lists that stand in memory, one behind the other. -/
def RdL (w : World) (A : Option Addr) (bss : List (List Int)) : Prop :=
  bss = [] ∨ ∃ g o, A = some ⟨g, o, none⟩ ∧ ∀ i bs, bss[i]? = some bs → ∃ (Ai : Option Addr) (ni ci : Nat), w.cell? ⟨g, o + i, none⟩ = some (.slice Ai ni ci) ∧ bs.length = ni ∧ ni ≤ ci ∧ Rd w Ai .u8 bs
theorem os_nil (w : World) : OwnS w 5 (.slice none 0 0) (ints .u8 []) := .inl ⟨rfl, rfl⟩
set_option maxHeartbeats 1000000 in
set_option maxRecDepth 100000 in
theorem shasum_calls (bss : List (List Int)) (m c : Nat) (A : Option Addr) (w : World) (hm : bss.length = m) (hr : RdL w A bss) (hb : ∀ bs ∈ bss, ∀ x ∈ bs, B8 x) (hsz : bss.flatten.length ≤ 100000000) (hmm : m ≤ 100000000) :
    Calls Tryz.prog 43 #[.slice A m c] w fun e w' => e = .returned (.agg (ints .u8 (shaOf bss.flatten)).toArray) ∧ Below w.heap.size w w' := by
  have hS := HS.start NoF w
  have HM := hid hm
  have HR := hid hr
  have HB := hid hb
  have HSZ := hid hsz
  clear hm hr hb hsz
  go_enter Tryz.func43, Tryz.ntmps43
  go_wp2_with (first
    | (refine alloc_blk rfl 25 rfl _ rfl (ints .u8 (List.replicate 32 0)) zeroHashS ?_; intro g2 w2 hga hba hBa hsa; replace hS := hS.pushBlk hBa hba hga; clear hga hba hBa hsa)
    | (go_at_call 70; refine (new_calls _).mono ?_; rintro e w3 ⟨gh, rfl, hn⟩
       replace hS : HS NoF w w3 [.blk gh 122 (shaC shaH0 (.slice none 0 0) 0), Z32 g2] := HS.call (A := []) hS hn (fun k hk => hk.elim)
       clear hn)
    | fail)
  have hS0 : HS NoF w w3 [.blk gh 122 (shaC (hOf (bss.take 0).flatten) (.slice none 0 0) ((bss.take 0).flatten.length : Nat)), .os 5 (.slice none 0 0) (ints .u8 (restOf (bss.take 0).flatten)), Z32 g2] := by
    have h1 := hS.take (.os 5 (.slice none 0 0) (ints .u8 [])) (os_nil _) (fun k hk => by cases hk) (fun f hf k hk => by cases hk)
    have e0 : (bss.take 0).flatten = [] := rfl
    have e1 : hOf [] = shaH0 := rfl
    have e2 : restOf [] = [] := rfl
    rw [e0, e1, e2]
    exact h1.perm (List.Perm.swap _ _ _)
  clear hS
  go_loopg [5, 9] (m + 1) (fun kq v5 v9 wr => ∃ (i : Nat) (vr : Value), i ≤ m ∧ v9 = .int .i64 i ∧ Hd (kq + i = m + 1) ∧ HS NoF w wr [.blk gh 122 (shaC (hOf (bss.take i).flatten) vr ((bss.take i).flatten.length : Nat)), .os 5 vr (ints .u8 (restOf (bss.take i).flatten)), Z32 g2])
  case atStart => exact ⟨0, _, by omega, rfl, hid (by omega), hS0⟩
  case round =>
    clear hS0
    obtain ⟨i, vr, hi, rfl, hq, hS⟩ := hrel
    have hown : vr.ownBlock ≠ some gh := fun he => hS.mem.apart (i := 0) (j := 1) rfl rfl (by decide) gh rfl he
    have hle : Hd ((bss.take i).flatten.length ≤ bss.flatten.length) := hid (by
      conv => rhs; rw [← List.take_append_drop i bss, List.flatten_append, List.length_append]
      omega)
    by_cases hlt : i < m
    · have hlt2 : (i : Int) < m := by omega
      obtain ⟨bs, hbs⟩ : ∃ bs, bss[i]? = some bs := ⟨bss[i]'(by rw [HM.out]; exact hlt), List.getElem?_eq_getElem _⟩
      have HT : Hd ((bss.take (i + 1)).flatten = (bss.take i).flatten ++ bs) := hid (by rw [List.take_add_one, hbs, List.flatten_append]; simp)
      have hle2 : Hd ((bss.take (i + 1)).flatten.length ≤ bss.flatten.length) := hid (by
        conv => rhs; rw [← List.take_append_drop (i + 1) bss, List.flatten_append, List.length_append]
        omega)
      have HBS : Hd (∀ x ∈ bs, B8 x) := hid (HB.out bs (List.mem_of_getElem? hbs))
      have HM8 : Hd (∀ x ∈ restOf (bss.take i).flatten, B8 x) := hid fun x hx => by
        obtain ⟨l, hl, hxl⟩ := List.mem_flatten.1 (List.mem_of_mem_drop hx)
        exact HB.out l (List.mem_of_mem_take hl) x hxl
      obtain ⟨g, o, rfl, hall⟩ : ∃ g o, A = some ⟨g, o, none⟩ ∧ ∀ i bs, bss[i]? = some bs → ∃ (Ai : Option Addr) (ni ci : Nat), w.cell? ⟨g, o + i, none⟩ = some (.slice Ai ni ci) ∧ bs.length = ni ∧ ni ≤ ci ∧ Rd w Ai .u8 bs := by
        rcases HR.out with h | h
        · rw [h] at hbs; simp at hbs
        · exact h
      obtain ⟨Ai, ni, ci, hcell, hni, hnc, hrd⟩ := hall i bs hbs
      have cc := hS.oldCell hcell id
      have HRD := hid (hS.oldRd hrd (fun _ _ _ h => h))
      have HSEP : Hd (∀ a, Ai = some a → bs ≠ [] → ¬ SF gh vr a.block) := hid fun a ha hne hf => by
        have hlt' : a.block < w.heap.size := by
          rcases hrd with h | ⟨g', o', he, h⟩
          · exact absurd h hne
          · rw [ha] at he; injection he with he; subst he
            exact lt_of_cell (h 0 (by cases bs with | nil => exact absurd rfl hne | cons => simp))
        rcases hf with hf | hf
        · rcases hS.own _ (List.mem_cons_self ..) a.block hf with h | h
          · exact h
          · omega
        · rcases hS.own _ (List.mem_cons_of_mem _ (List.mem_cons_self ..)) a.block hf with h | h
          · exact h
          · omega
      have HNI := hid hni
      obtain ⟨M, hMM⟩ : ∃ M, Hd ((bss.take i).flatten = M) := ⟨_, hid rfl⟩
      rw [hMM.out] at hS HT hle HM8
      have HLEN : Hd ((M ++ bs).length ≤ 100000000) := hid (by rw [← HT.out]; exact Nat.le_trans hle2.out HSZ.out)
      clear hall hcell hrd hni hle2 hbs
      go_wp2_with (first
        | (go_at_call 71
           refine (write_calls (hOf M) (restOf M) bs (M.length : Nat) gh ni ci Ai vr _ (hS.blk 0 rfl) (hS.os 1 rfl) hown (hOf_length M) (hOf_W32 M) HM8.out HBS.out HNI.out hnc HRD.out HSEP.out
             (by rw [restOf_length]; have h1 := HLEN.out; have h2 := HNI.out; rw [List.length_append] at h1; omega) (by have h1 := HLEN.out; rw [List.length_append] at h1; omega)).mono ?_
           rintro e w6 ⟨rfl, vr', hw⟩
           rw [hOf_append, restOf_append, ← HT.out] at hw
           have HLN : Hd ((M.length : Int) + ni = ((bss.take (i + 1)).flatten.length : Nat)) := hid (by rw [HT.out, List.length_append, HNI.out]; omega)
           rw [HLN.out] at hw
           replace hS : HS NoF w w6 [.blk gh 122 (shaC (hOf (bss.take (i + 1)).flatten) vr' ((bss.take (i + 1)).flatten.length : Nat)), .os 5 vr' (ints .u8 (restOf (bss.take (i + 1)).flatten)), Z32 g2] :=
             HS.call (A := [Ent.blk gh 122 (shaC (hOf M) vr (M.length : Nat)), Ent.os 5 vr (ints .u8 (restOf M))]) (L := [Z32 g2]) hS hw (fun k hk => by
                   rcases hk with hk | hk
                   · exact ⟨_, List.mem_cons_self .., hk⟩
                   · exact ⟨_, List.mem_cons_of_mem _ (List.mem_cons_self ..), hk⟩)
           clear hw)
        | fail)
      go_roundg (gk - 1)
      case measure => have := hq.out; omega
      case rel => exact ⟨i + 1, vr', by omega, by go_num, hid (by have := hq.out; omega), hS⟩
    · obtain rfl : i = m := by omega
      have HALL : Hd (bss.take i = bss) := hid (List.take_of_length_le (by rw [HM.out]; exact Nat.le_refl _))
      rw [HALL.out] at hS hle
      have HB8 : Hd (∀ x ∈ bss.flatten, B8 x) := hid fun x hx => by
        obtain ⟨l, hl, hxl⟩ := List.mem_flatten.1 hx
        exact HB.out l hl x hxl
      obtain ⟨M, hMM⟩ : ∃ M, Hd (bss.flatten = M) := ⟨_, hid rfl⟩
      rw [hMM.out] at hS HB8 HSZ
      have HSL : Hd ((shaOf M).length = 32) := hid (shaOf_length M)
      clear hlt hi hq
      go_wp2_with (first
        | (go_at_call 72
           refine (sumH_calls M gh vr _ (hS.blk 0 rfl) (hS.os 1 rfl) hown HB8.out (by have := HSZ.out; omega)).mono ?_
           rintro e w6 ⟨rfl, hB⟩
           replace hS := hS.below hB
           clear hB)
        | (refine hs_storeW hS 2 rfl rfl 25 _ _ rfl rfl (ints .u8 (shaOf M)) rfl (ints_one' _ _) _ infoHashS (by simp [HSL.out]) (by simp) _ rfl ?_; clear hS; intro w9 hS)
        | fail)
      refine bodyPost_ret (results_blk rfl _ _ g2 _ _ 32 _ rfl (hS.blk 2 rfl) arrHashS (by simp [HSL.out]) infoHashS) rfl ⟨by rw [hMM.out], hS.bel⟩
end Go.Proofs.YtlikinglgegclaaGreatDoor
