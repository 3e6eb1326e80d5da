import Derived.ArgAppend
import Derived.Test.YtlikinglgegclaaDoorProg
import Derived.Test.YtlikinglgegclaaDoorMgTO0
import Derived.Test.YtlikinglgegclaaDoorMgTO1
import Derived.Test.YtlikinglgegclaaDoorMgTO2
import Derived.Test.YtlikinglgegclaaDoorMgTO3
import Derived.Test.YtlikinglgegclaaDoorMgTO4
import Derived.Test.YtlikinglgegclaaDoorMgTO5
import Derived.Test.YtlikinglgegclaaDoorMgTO6
import Derived.Test.YtlikinglgegclaaDoorMgTO7
import Derived.Test.YtlikinglgegclaaDoorMgTO8
set_option linter.unusedSimpArgs false
set_option linter.unusedVariables false
open List (getElem_toArray getElem_cons_zero getElem_cons_succ)
/- Slices of one's own, wherever they begin in their block: read, cut, appended to, written. -/
namespace Go.Cour
open Go.RowKit
/-- The slice value v, of the cells cs, is one's own. -/
def OwnS (w : World) (e : TypeId) (v : Value) (cs : List Value) : Prop :=
  (v = .slice none 0 0 ∧ cs = []) ∨ ∃ g off c cur, v = .slice (some ⟨g, off, none⟩) cs.length c ∧ w.heap[g]? = some (.cells cur e (0, 0)) ∧ cs.length ≤ c ∧ off + c ≤ cur.size ∧ c ≤ maxLen ∧ ∀ j u, cs[j]? = some u → cur[off + j]? = some u
section
variable {w w' : World} {e : TypeId} {v v' : Value} {cs : List Value}
theorem OwnS.nil (w : World) (e : TypeId) : OwnS w e (.slice none 0 0) [] := .inl ⟨rfl, rfl⟩
theorem OwnS.lt (h : OwnS w e v cs) (j : Nat) (hj : v.ownBlock = some j) : j < w.heap.size := by
  rcases h with ⟨rfl, _⟩ | ⟨g, off, c, cur, rfl, hh, _⟩
  · simp [Value.ownBlock] at hj
  · have : g = j := by simpa [Value.ownBlock] using hj
    subst this
    exact (Array.getElem?_eq_some_iff.1 hh).1
theorem OwnS.kept (h : OwnS w e v cs) (hk : ∀ j, v.ownBlock = some j → w'.heap[j]? = w.heap[j]?) : OwnS w' e v cs := by
  rcases h with h | ⟨g, off, c, cur, rfl, hh, r⟩
  · exact .inl h
  · exact .inr ⟨g, off, c, cur, rfl, (hk g rfl).trans hh, r⟩
theorem OwnS.below (h : OwnS w e v cs) (hb : Below w.heap.size w w') : OwnS w' e v cs := h.kept fun j hj => hb.block j (h.lt j hj)
theorem OwnS.parts (h : OwnS w e v cs) : ∃ A c, v = .slice A cs.length c ∧ cs.length ≤ c ∧ c ≤ maxLen ∧ (A = none → c = 0) ∧ (∀ a, A = some a → v.ownBlock = some a.block) ∧ ∀ j u, cs[j]? = some u → ∃ g off, A = some ⟨g, off, none⟩ ∧ w.cell? ⟨g, off + j, none⟩ = some u := by
  rcases h with ⟨rfl, rfl⟩ | ⟨g, off, c, cur, rfl, hh, h1, h2, h3, h4⟩
  · exact ⟨none, 0, rfl, Nat.le_refl _, by unfold maxLen; omega, fun _ => rfl, fun a ha => (by cases ha), fun j u hu => by simp at hu⟩
  · exact ⟨_, c, rfl, h1, h3, (fun ha => by cases ha), (fun a ha => by injection ha with ha; subst ha; rfl), fun j u hu => ⟨g, off, rfl, by rw [cell_of_row w g _ cur e (0, 0) hh]; exact h4 j u hu⟩⟩
theorem OwnS.ofRow {b : Nat} (h : w.ownsRow b e 1 v cs.length cs) : OwnS w e v cs := by
  obtain ⟨h1, ⟨rfl, h2⟩ | ⟨g, cap, cur, rfl, hg, hh, hn, hm, hs, ht⟩⟩ := h
  · exact .inl ⟨rfl, List.eq_nil_of_length_eq_zero h2⟩
  · refine .inr ⟨g, 0, cap, cur, rfl, hh, hn, by omega, hm, fun j u hu => ?_⟩
    rw [← ht, Nat.mul_one, List.getElem?_take] at hu
    split at hu
    · simpa using hu
    · cases hu
theorem Own.os {b : Nat} {k : IntKind} {xs : List Int} (h : Own w b e k v xs) : OwnS w e v (ints k xs) := OwnS.ofRow (b := b) (by
  have : xs.length = (ints k xs).length := by simp
  unfold Own at h
  rwa [this] at h)
theorem OwnV.os {b : Nat} (h : OwnV w b e v cs) : OwnS w e v cs := OwnS.ofRow h
theorem OwnS.ofBlk {g : Nat} (h : Blk w g e cs) (hm : cs.length ≤ maxLen) : OwnS w e (.slice (some ⟨g, 0, none⟩) cs.length cs.length) cs :=
  .inr ⟨g, 0, cs.length, cs.toArray, rfl, h, Nat.le_refl _, by simp, hm, fun j u hu => by simpa using hu⟩
/-- It reads as numbers. -/
theorem OwnS.rd {k : IntKind} {xs : List Int} (h : OwnS w e v (ints k xs)) {A : Option Addr} {n c : Nat} (hv : v = .slice A n c) : Rd w A k xs := by
  rcases h with ⟨rfl, h⟩ | ⟨g, off, c', cur, rfl, hh, h1, h2, h3, h4⟩
  · left; simpa [ints] using h
  · injection hv with hv
    subst hv
    exact .inr ⟨g, off, rfl, fun i hi => by rw [cell_of_row w g _ cur e (0, 0) hh]; exact h4 i _ (ints_get k xs i hi)⟩
theorem OwnS.len {A : Option Addr} {n c : Nat} (h : OwnS w e (.slice A n c) cs) : n = cs.length ∧ n ≤ c ∧ c ≤ maxLen ∧ (A = none → c = 0) := by
  obtain ⟨A', c', hv, h1, h2, h3, _⟩ := h.parts
  injection hv with hv1 hv2 hv3
  subst hv1 hv2 hv3
  exact ⟨rfl, h1, h2, h3⟩
theorem OwnS.cut {A : Option Addr} {n c : Nat} (h : OwnS w e (.slice A n c) cs) (f : Nat) (hf : f ≤ n) : OwnS w e (.slice (cutA A c f) (n - f) (c - f)) (cs.drop f) := by
  rcases h with ⟨hv, rfl⟩ | ⟨g, off, c', cur, hv, hh, h1, h2, h3, h4⟩
  · injection hv with hv1 hv2 hv3
    subst hv1 hv2 hv3
    obtain rfl : f = 0 := by omega
    exact .inl ⟨by simp [cutA], by simp⟩
  · injection hv with hv1 hv2 hv3
    subst hv1 hv2 hv3
    unfold cutA
    by_cases hc : c = f
    · rw [if_pos hc]
      refine .inr ⟨g, off, c - f, cur, by simp, hh, by simp; omega, by omega, by omega, fun j u hu => ?_⟩
      rw [List.getElem?_drop] at hu
      have := (List.getElem?_eq_some_iff.1 hu).1
      omega
    · rw [if_neg hc]
      refine .inr ⟨g, off + f, c - f, cur, by simp [add_lit], hh, by simp; omega, by omega, by omega, fun j u hu => ?_⟩
      rw [List.getElem?_drop] at hu
      rw [Nat.add_assoc]
      exact h4 _ _ hu
/-- A place of it written. -/
theorem OwnS.set (h : OwnS w e v cs) {g off n c : Nat} (hv : v = .slice (some ⟨g, off, none⟩) n c) (j : Nat) (u : Value) (hj : j < cs.length) : OwnS (w.setCell ⟨g, off + j, none⟩ u) e v (cs.set j u) := by
  rcases h with ⟨rfl, rfl⟩ | ⟨g', off', c', cur, hv', hh, h1, h2, h3, h4⟩
  · simp at hj
  · rw [hv] at hv'
    injection hv' with hv1 hv2 hv3
    injection hv1 with hv1
    injection hv1 with hv1 hv4
    subst hv1 hv2 hv3 hv4
    refine .inr ⟨g, off, c, cur.setIfInBounds (off + j) u, by rw [hv, List.length_set], heap_setCell_same w g (off + j) cur e _ hh, by simpa using h1, by simpa using h2, h3, fun i x hx => ?_⟩
    by_cases hij : j = i
    · subst hij
      rw [List.getElem?_set_self hj] at hx
      rw [Array.getElem?_setIfInBounds]
      simp [← hx]; omega
    · rw [List.getElem?_set_ne hij] at hx
      rw [Array.getElem?_setIfInBounds_ne (by omega)]
      exact h4 i x hx
theorem OwnS.frozen (h : OwnS w e v cs) {g off n c : Nat} (hv : v = .slice (some ⟨g, off, none⟩) n c) (j : Nat) : w.frozen? ⟨g, j, none⟩ = false := by
  rcases h with ⟨rfl, rfl⟩ | ⟨g', off', c', cur, hv', hh, _⟩
  · cases hv
  · rw [hv] at hv'
    injection hv' with hv1
    injection hv1 with hv1
    injection hv1 with hv1
    subst hv1
    simp [World.frozen?, hh]
end
def Ent.os (e : TypeId) (v : Value) (cs : List Value) : Ent where
  F := fun j => v.ownBlock = some j
  p := fun w => OwnS w e v cs
  lt := fun h j hj => h.lt j hj
  kept := fun h hk => h.kept hk
section
variable {P : Program} {w w0 : World} {F : Nat → Prop} {L : List Ent}
theorem HS.os (h : HS F w0 w L) (i : Nat) {t : TypeId} {v : Value} {cs : List Value} (hi : L[i]? = some (.os t v cs)) : OwnS w t v cs := h.mem.get hi
/-- append, whatever lies behind the slice. -/
theorem run_append_os (t ty e : TypeId) (bytes : Nat) (ht : P.underlying t = some (.slice e)) (hi : (P.info? e).map (fun i => (i.size, i.bytes)) = some (1, bytes)) (hz : (((P.info? e).bind (·.zero)).map (·.cells.size)) = some 1)
    (v : Value) (cs : List Value) (hown : OwnS w e v cs) (A : Option Addr) (m c : Nat) (news : List Value) (hl : news.length = m) (hnews : ∀ j u, news[j]? = some u → ∃ ad, A = some ad ∧ w.cell? (ad.add j) = some u) (h1 : ∀ u ∈ news, u.oneCell' = true)
    (hbytes : (cs.length + m) * bytes ≤ 140737488355328) (h63 : cs.length + m ≤ 140737488355328) :
    ∃ v' w', (Builtin.append_ #[t, t] ty #[v, .slice A m c]).run P w = .ok v' w' ∧ OwnS w' e v' (cs ++ news) ∧ Upd (fun j => v.ownBlock = some j) w w' ∧ ∀ k, v'.ownBlock = some k → v.ownBlock = some k ∨ w.heap.size ≤ k := by
  obtain ⟨i, hi0, hi1, hi2⟩ : ∃ i, P.info? e = some i ∧ i.size = 1 ∧ i.bytes = bytes := by
    cases hq : P.info? e with
    | none => simp [hq] at hi
    | some i => simp [hq] at hi; exact ⟨i, rfl, hi.1, hi.2⟩
  obtain ⟨z, hz0, hz1⟩ : ∃ z, i.zero = some z ∧ z.cells.size = 1 := by
    cases hq : i.zero with
    | none => simp [hi0, hq] at hz
    | some z => simp [hi0, hq] at hz; exact ⟨z, rfl, hz⟩
  by_cases hm : m = 0
  · have hnil : news = [] := List.eq_nil_of_length_eq_zero (by omega)
    subst hnil hm
    refine ⟨v, w, ?_, by simpa using hown, Upd.refl _ _, fun k hk => .inl hk⟩
    have hr : ∀ (B : Option Addr) (n cap : Nat), n ≤ cap → v = .slice B n cap → (B = none → cap = 0) → (Builtin.append_ #[t, t] ty #[.slice B n cap, .slice A 0 c]).run P w = .ok (.slice B n cap) w := fun B n cap hnc hv hB => by
      cases B with
      | none =>
        have := hB rfl
        obtain rfl : n = 0 := by omega
        cases A <;> simp [Builtin.append_, run_underlying ht, sizeOf, typeInfo, hi0, Builtin.lenOf, Builtin.firstCells, loadCells, loadCellsFrom]
      | some b => cases A <;> simp [Builtin.append_, run_underlying ht, sizeOf, typeInfo, hi0, Builtin.lenOf, hnc, Builtin.firstCells, loadCells, loadCellsFrom, storeCells]
    obtain ⟨B, cap, hv, hnc, _, hB, _⟩ := hown.parts
    rw [hv]; exact hr B cs.length cap hnc hv hB
  · obtain ⟨ad, rfl⟩ : ∃ ad, A = some ad := by
      cases news with
      | nil => simp at hl; omega
      | cons u us => obtain ⟨ad, h, _⟩ := hnews 0 u (by simp); exact ⟨ad, h⟩
    have hnews' : ∀ j u, news[j]? = some u → w.cell? (ad.add j) = some u := fun j u hu => by
      obtain ⟨ad', h, h2⟩ := hnews j u hu
      injection h with h; subst h; exact h2
    rcases hown with ⟨rfl, rfl⟩ | ⟨g, off, cap, cur, rfl, hh, hn, hfit, hcm, hcs⟩
    · have hr := run_append_nil (P := P) w t ty e i z ht hi0 hz0 ad m c news (by rw [hl, hi1, Nat.mul_one]) hnews' (by omega) (by omega) (by rw [hi2]; simp at hbytes; omega)
      refine ⟨_, _, hr, ?_, Upd.of_below ((below_drewN (Below.refl w.heap.size w) 1).alloc (Nat.le_refl _) _) _, fun k hk => .inr ?_⟩
      · refine .inr ⟨w.heap.size, 0, _, _, by rw [List.nil_append, hl], heap_alloc_new w.drew _, ?_, ?_, grownCap_le_maxLen w m 0 e (by unfold maxLen; simp at h63; omega), fun j u hu => ?_⟩
        · rw [List.nil_append, hl]; exact grownCap_ge w m 0 e
        · have := grownCap_ge w m 0 e
          simp only [Array.size_append, List.size_toArray, size_zeroCells, hz1, hl]; omega
        · rw [List.nil_append] at hu
          have hlt := (List.getElem?_eq_some_iff.1 hu).1
          rw [Nat.zero_add, Array.getElem?_append_left (by simpa using hlt)]
          simpa using hu
      · have : w.heap.size = k := by simpa [Value.ownBlock] using hk
        omega
    · have holds : ∀ j u, cs[j]? = some u → w.cell? ((⟨g, off, none⟩ : Addr).add j) = some u := fun j u hu => by
        rw [add_lit, cell_of_row w g _ cur e (0, 0) hh]; exact hcs j u hu
      by_cases hroom : cs.length + m ≤ cap
      · have hr := run_append_room_cells (P := P) w t ty e i ht hi0 g off cs.length cap ad m c news (by rw [hl, hi1, Nat.mul_one]) hnews' h1 hroom
          (fun j hj => by rw [hi1, Nat.mul_one, cell_of_row w g _ cur e (0, 0) hh, Array.getElem?_eq_getElem (by omega)]; rfl)
          (fun j hj => by simp [World.frozen?, hh])
        rw [hi1, Nat.mul_one] at hr
        refine ⟨_, _, hr, ?_, (setCells_upd news w _).mono fun k _ hk => by simp [Value.ownBlock]; exact hk.symm, fun k hk => .inl (by simpa [Value.ownBlock] using hk)⟩
        have hb : Blk w g e cur.toList := by unfold Blk; simpa using hh
        have hb2 := setCells_blk news (off + cs.length) hb (by simp; omega)
        refine .inr ⟨g, off, cap, _, by rw [List.length_append, hl], hb2, by rw [List.length_append]; omega, by simp; omega, hcm, fun j u hu => ?_⟩
        rw [List.getElem?_append] at hu
        simp only [List.getElem?_toArray]
        rw [List.append_assoc]
        split at hu
        · rename_i hlt
          rw [List.getElem?_append_left (by simp; omega), List.getElem?_take, if_pos (by omega)]
          simpa using hcs j u hu
        · rename_i hge
          have hlt := (List.getElem?_eq_some_iff.1 hu).1
          rw [List.getElem?_append_right (by simp; omega), List.getElem?_append_left (by simp; omega)]
          rw [← hu]; congr 1; simp; omega
      · have hr := run_append_grow (P := P) w t ty e i z ht hi0 hz0 ⟨g, off, none⟩ cs.length cap cs (by rw [hi1, Nat.mul_one]) holds ad m c news (by rw [hl, hi1, Nat.mul_one]) hnews' (by omega) (by omega) (growslice_fits (by omega) (by rw [hi2]; exact hbytes))
        refine ⟨_, _, hr, ?_, Upd.of_below ((below_drewN (Below.refl w.heap.size w) 1).alloc (Nat.le_refl _) _) _, fun k hk => .inr ?_⟩
        · refine .inr ⟨w.heap.size, 0, _, _, by rw [List.length_append, hl], heap_alloc_new w.drew _, ?_, ?_, grownCap_le_maxLen w _ cap e (by unfold maxLen; omega), fun j u hu => ?_⟩
          · rw [List.length_append, hl]; exact grownCap_ge w _ cap e
          · have := grownCap_ge w (cs.length + m) cap e
            simp only [Array.size_append, List.size_toArray, size_zeroCells, hz1, hl]; omega
          · have hlt := (List.getElem?_eq_some_iff.1 hu).1
            rw [Nat.zero_add, Array.getElem?_append_left (by simpa using hlt)]
            simpa using hu
        · have : w.heap.size = k := by simpa [Value.ownBlock] using hk
          omega
end
section
variable {P : Program} {ops : Array Oper} {rest : List Oper} {o : Oper} {a : Act} {w w0 : World} {Q : Exit → Act → World → Prop} {F : Nat → Prop} {L : List Ent}
theorem hs_append (hS : HS F w0 w L) (i : Nat) {e : TypeId} {v : Value} {cs : List Value} (hi : L[i]? = some (.os e v cs)) (hw : Region.wanted o (yielded ops a.tmps) = true) (s x : Operand) (t : TypeId)
    (ho : o.op = .call { callee := .builtin .append, args := #[s, x], argTypes := #[t, t] }) (bytes : Nat) (ht : P.underlying t = some (.slice e)) (hf : (P.info? e).map (fun i => (i.size, i.bytes)) = some (1, bytes)) (hz : (((P.info? e).bind (·.zero)).map (·.cells.size)) = some 1)
    (hs : a.eval s = v) (A : Option Addr) (m c : Nat) (hx : a.eval x = .slice A m c) (news : List Value) (hl : news.length = m) (hnews : ∀ j u, news[j]? = some u → ∃ ad, A = some ad ∧ w.cell? (ad.add j) = some u) (h1 : ∀ u ∈ news, u.oneCell' = true)
    (hbytes : (cs.length + m) * bytes ≤ 140737488355328) (h63 : cs.length + m ≤ 140737488355328) (d : Option Tmp) (hd : o.dst = d)
    (h : ∀ A' n' c' w', (cs ++ news).length = n' → n' ≤ c' → (A' = none → c' = 0) → HS F w0 w' (L.set i (.os e (.slice A' n' c') (cs ++ news))) → wpList P ops Q rest (a.put d (.slice A' n' c')) w') : wpList P ops Q (o :: rest) a w := by
  subst hd
  refine wpList_step fun K hK => ?_
  rw [if_pos hw]
  obtain ⟨v', w', hrun, ho', hu, hb⟩ := run_append_os (P := P) t o.type e bytes ht hf hz v cs (hS.os i hi) A m c news hl hnews h1 hbytes h63
  unfold Oper.wp execOp
  simp only [ho, resolve, invoke, builtin]
  simp [hs, hx, hrun]
  obtain ⟨A', c', rfl, h5, _, h6, _⟩ := ho'.parts
  exact hK _ _ (h A' _ c' w' rfl h5 h6 (hS.upd1 i hi hu _ ho' hb))
end
/-- A literal of one. -/
theorem hs_one {P : Program} {ops : Array Oper} {rest : List Oper} {o : Oper} {a : Act} {w w0 : World} {Q : Exit → Act → World → Prop} {F : Nat → Prop} {L : List Ent} (hS : HS F w0 w L) (hw : Region.wanted o (yielded ops a.tmps) = true) (t e : TypeId) (x : Operand) (ho : o.op = .buildSlice t 1 #[(0, x)])
    (hu : P.underlying t = some (.slice e)) (hf : (P.info? e).map (·.size) = some 1) (hz : (((P.info? e).bind (·.zero)).map (·.cells.size)) = some 1) (v : Value) (hv : a.eval x = v) (h1 : v.oneCell' = true) (d : Option Tmp) (hd : o.dst = d)
    (h : ∀ g w', w.heap.size = g → Below w.heap.size w w' → HS F w0 w' (.os e (.slice (some ⟨g, 0, none⟩) 1 1) [v] :: L) → wpList P ops Q rest (a.put d (.slice (some ⟨g, 0, none⟩) 1 1)) w') : wpList P ops Q (o :: rest) a w := by
  subst hd
  have hB : Below w.heap.size w (w.alloc (.cells (#[v] : Array Value) e)) := (Below.refl _ _).alloc (Nat.le_refl _) _
  have hb : Blk (w.alloc (.cells (#[v] : Array Value) e)) w.heap.size e [v] := Blk.new w e [v]
  have h2 := h w.heap.size _ rfl hB (hS.push hB (.os e (.slice (some ⟨w.heap.size, 0, none⟩) 1 1) [v]) (OwnS.ofBlk hb (by unfold maxLen; simp)) (fun k hk => Nat.le_of_eq (by simpa [Ent.os, Value.ownBlock] using hk)))
  have hc : v.cells = #[v] := by cases v <;> first | rfl | cases h1
  cases hie : P.info? e with
  | none => simp [hie] at hf
  | some ie =>
    have hsz : ie.size = 1 := by simpa [hie] using hf
    cases hzz : ie.zero with
    | none => simp [hie, hzz] at hz
    | some z =>
      have hz1 : z.cells.size = 1 := by simpa [hie, hzz] using hz
      refine wpList_step fun K hK => ?_
      rw [if_pos hw]
      refine wp_buildSlice t e 1 #[(0, x)] ho #[v] ie z hu hie hzz (by rw [hsz]; decide) (by rw [hsz]; decide) ?_ (hK _ _ h2)
      have e1 : ∀ xs : Array Value, xs.size = 1 → xs.setIfInBounds 0 v = #[v] := fun xs hx => by
        obtain ⟨y, rfl⟩ := Array.size_eq_one_iff.1 hx
        rfl
      simp [hsz, hv, Instr.fill, hc, e1]
theorem news_of_rd {w : World} {A : Option Addr} {k : IntKind} {xs : List Int} (h : Rd w A k xs) : ∀ j u, (ints k xs)[j]? = some u → ∃ ad, A = some ad ∧ w.cell? (ad.add j) = some u := fun j u hu => by
  have hlt := (List.getElem?_eq_some_iff.1 hu).1
  simp at hlt
  rw [ints_get k xs j hlt] at hu
  injection hu with hu
  subst hu
  rcases h with h | ⟨g, o, rfl, h⟩
  · subst h; simp at hlt
  · exact ⟨_, rfl, by rw [add_lit]; exact h j hlt⟩
theorem ints_one' (k : IntKind) (xs : List Int) : ∀ u ∈ ints k xs, u.oneCell' = true := fun u hu => by
  obtain ⟨y, _, rfl⟩ := List.mem_map.1 hu; rfl
/-- A fresh slice beside all that is there. -/
theorem HS.pushOwn {F : Nat → Prop} {w0 w w' : World} {L : List Ent} (h : HS F w0 w L) (hb : Below w.heap.size w w') {e : TypeId} {k : IntKind} {v : Value} {xs : List Int} (ho : Own w' w.heap.size e k v xs) : HS F w0 w' (.os e v (ints k xs) :: L) :=
  h.push hb _ ho.os fun j hj => ho.base_le j hj
theorem Own.partsL {w : World} {b m : Nat} {e : TypeId} {k : IntKind} {v : Value} {xs : List Int} (h : Own w b e k v xs) (hm : xs.length = m) : ∃ A c, v = .slice A m c ∧ m ≤ c ∧ (A = none → c = 0) := by
  subst hm
  obtain ⟨A, c, h1, h2, h3, _⟩ := h.parts
  exact ⟨A, c, h1, h2, h3⟩
end Go.Cour
/- A desc's cells. -/
namespace Go.Proofs.YtlikinglgegclaaDoor
open Go.RowKit Go.Cour
/-- A desc's cells. -/
def descC (id m q : Int) (key root blob : List Int) : List Value := [.int .u32 id, .int .u32 m, .int .u32 q] ++ ints .u8 key ++ ints .u8 root ++ ints .u8 blob
theorem descC_length {id m q : Int} {key root blob : List Int} (hk : key.length = 32) (hr : root.length = 32) (hb : blob.length = 32) : (descC id m q key root blob).length = 99 := by simp [descC, hk, hr, hb]
theorem descC_one (id m q : Int) (key root blob : List Int) : ∀ v ∈ descC id m q key root blob, v.oneCell' = true := fun v hv => by
  unfold descC at hv
  simp only [List.mem_append, List.mem_cons, List.not_mem_nil, or_false] at hv
  rcases hv with (((rfl | rfl | rfl) | hv) | hv) | hv
  · rfl
  · rfl
  · rfl
  · exact ints_one' _ _ v hv
  · exact ints_one' _ _ v hv
  · exact ints_one' _ _ v hv
theorem sizeDesc : (Tryd.prog.info? 32).map (·.size) = some 99 := by kernel_rfl
theorem undDesc : ∃ fs, Tryd.prog.underlying 32 = some (.struct fs) := ⟨_, Tryd.underlying32⟩
end Go.Proofs.YtlikinglgegclaaDoor
/- table: a row's cells. -/
namespace Go.Proofs.YtlikinglgegclaaDoor
open Go.RowKit Go.Cour
/-- A row's cells. -/
def rowC (id kind state : Int) (D : List Value) (blob : Value) (up : List Value) (down : Value) : List Value := [.int .i64 id, .int .i64 kind, .int .i64 state] ++ D ++ [blob] ++ up ++ [down]
theorem sizeRow : (Tryd.prog.info? 74).map (·.size) = some 108 := by kernel_rfl
theorem results_strR {P : Program} {fn : Func} {p : Tmp} {ty : TypeId} (h : fn.results = #[.cell p ty]) (tmps : Array Value) (w : World) (g : Nat) (t : TypeId) (cs : List Value) (fs : _)
    (hp : tmps.getD p undef = .pointer (some ⟨g, 0, none⟩)) (hg : Blk w g t cs)
    (hu : P.underlying ty = some (.struct fs)) (hi : (P.info? ty).map (·.size) = some cs.length) :
    (results fn tmps).run P w = .ok (.agg cs.toArray) w :=
  results_cell_row h tmps w g t cs.toArray (0, 0) _ hp hg hu rfl (by rw [hi]; simp)
theorem undRow : ∃ fs, Tryd.prog.underlying 74 = some (.struct fs) := ⟨_, Tryd.underlying74⟩
theorem sizeIntM : (Tryd.prog.info? 3).map (·.size) = some 1 := by kernel_rfl
def dscZ (di m q : Int) : List Value := descC di m q (List.replicate 32 0) (List.replicate 32 0) (List.replicate 32 0)
theorem dscZ_length (di m q : Int) : (dscZ di m q).length = 99 := descC_length (by simp) (by simp) (by simp)
/-- A row that has ended. -/
def endC (id kind state : Int) (D : List Value) (blob : Value) : List Value := rowC id kind state D blob [.int .i64 0, .int .i64 0, .int .i64 0, .int .i64 0] (.pointer none)
def rowZ : List Value := endC 0 0 0 (dscZ 0 0 0) (.slice none 0 0)
theorem endC_length (id kind state : Int) (D : List Value) (blob : Value) (h : D.length = 99) : (endC id kind state D blob).length = 108 := by simp [endC, rowC, h]
theorem rowZ_length : rowZ.length = 108 := endC_length _ _ _ _ _ (dscZ_length _ _ _)
theorem rowC_one (id kind state : Int) (D : List Value) (blob : Value) (u0 u1 u2 u3 : Int) (down : Value) (h : ∀ v ∈ D, v.oneCell' = true) (hb : blob.oneCell' = true) (hd : down.oneCell' = true) : ∀ v ∈ rowC id kind state D blob [.int .i64 u0, .int .i64 u1, .int .i64 u2, .int .i64 u3] down, v.oneCell' = true := fun v hv => by
  unfold rowC at hv
  simp only [List.mem_append, List.mem_cons, List.not_mem_nil, or_false] at hv
  rcases hv with ((((rfl | rfl | rfl) | hv) | rfl) | (rfl | rfl | rfl | rfl)) | rfl
  · rfl
  · rfl
  · rfl
  · exact h v hv
  · exact hb
  · rfl
  · rfl
  · rfl
  · rfl
  · exact hd
theorem endC_one (id kind state : Int) (D : List Value) (blob : Value) (h : ∀ v ∈ D, v.oneCell' = true) (hb : blob.oneCell' = true) : ∀ v ∈ endC id kind state D blob, v.oneCell' = true := rowC_one _ _ _ _ _ _ _ _ _ _ h hb rfl
theorem sizeBytesM : (Tryd.prog.info? 24).map (·.size) = some 1 := by kernel_rfl
theorem zeroRow : ((Tryd.prog.info? 74).bind (·.zero)).map (·.cells) = some rowZ.toArray := by kernel_rfl
end Go.Proofs.YtlikinglgegclaaDoor
/- The program's numbers of the rounds; a block taken in. -/
namespace Go.Proofs.YtlikinglgegclaaDoor
open Go.RowKit Go.Cour
theorem infoW8 : (Tryd.prog.info? 88).map (·.size) = some 8 := by kernel_rfl
theorem arrW8 : Tryd.prog.underlying 88 = some (.array 8 29) := by kernel_rfl
theorem zeroW8 : ((Tryd.prog.info? 88).bind (·.zero)).map (·.cells) = some (ints .u32 (List.replicate 8 0)).toArray := by kernel_rfl
theorem sizeU32 : (Tryd.prog.info? 29).map (·.size) = some 1 := by kernel_rfl
end Go.Proofs.YtlikinglgegclaaDoor
/- The program's digest on its way: New, Write. -/
namespace Go.Proofs.YtlikinglgegclaaDoor
open Go.RowKit Go.Cour
def B8 (x : Int) : Prop := 0 ≤ x ∧ x < 256
theorem zero_B8 : B8 0 := ⟨by decide, by decide⟩
/-- So many blocks of a text, taken in. -/
def blocksS (h xs : List Int) (q : Nat) : List Int := (List.range q).foldl (fun h i => shaBlock h ((xs.drop (64 * i)).take 64)) h
theorem blocksS_succ (h xs : List Int) (q : Nat) : blocksS h xs (q + 1) = shaBlock (blocksS h xs q) ((xs.drop (64 * q)).take 64) := by simp [blocksS, List.range_succ]
theorem blocksS_length (h xs : List Int) (hl : h.length = 8) (q : Nat) : (blocksS h xs q).length = 8 := by
  induction q with
  | zero => simpa [blocksS] using hl
  | succ q ih => rw [blocksS_succ, shaBlock_length, ih]
theorem blocksS_W32 (h xs : List Int) (hh : ∀ x ∈ h, W32 x) (q : Nat) : ∀ x ∈ blocksS h xs q, W32 x := by
  induction q with
  | zero => simpa [blocksS] using hh
  | succ q ih => rw [blocksS_succ]; exact shaBlock_W32 _ _ ih
section
variable {h : List Int} {vr v : Value} {n m : Int}
end
theorem undBytesS : Tryd.prog.underlying 24 = some (.slice 5) := by kernel_rfl
theorem infoU8S : (Tryd.prog.info? 5).map (fun i => (i.size, i.bytes)) = some (1, 1) := by kernel_rfl
theorem zeroU8S : (((Tryd.prog.info? 5).bind (·.zero)).map (·.cells.size)) = some 1 := by kernel_rfl
theorem sizeU8S : (Tryd.prog.info? 5).map (·.size) = some 1 := by kernel_rfl
end Go.Proofs.YtlikinglgegclaaDoor
/- The digest of a text, as a function of lists; the program's digest told. -/
namespace Go.Proofs.YtlikinglgegclaaDoor
open Go.RowKit Go.Cour
def shaH0 : List Int := [1779033703, 3144134277, 1013904242, 2773480762, 1359893119, 2600822924, 528734635, 1541459225]
theorem shaH0_W32 : ∀ x ∈ shaH0, W32 x := by unfold W32; decide
/-- Byte i of a length. -/
def lenB (n : Nat) (i : Nat) : Int := (n : Int) * 8 / 2 ^ (56 - 8 * i) % 256
def lenBs (n k : Nat) : List Int := (List.range k).map (lenB n)
theorem lenBs_succ (n k : Nat) : lenBs n (k + 1) = lenBs n k ++ [lenB n k] := by simp [lenBs, List.range_succ]
/-- How many zeros. -/
def padZ (n : Nat) : Nat := (119 - n % 64) % 64
/-- What is behind a text. -/
def padOf (n : Nat) : List Int := [128] ++ List.replicate (padZ n) 0 ++ lenBs n 8
theorem padOf_length (n : Nat) : (n + (padOf n).length) % 64 = 0 := by simp [padOf, lenBs, padZ]; omega
theorem padOf_B8 (n : Nat) : ∀ x ∈ padOf n, B8 x := fun x hx => by
  unfold padOf at hx
  rcases List.mem_append.1 hx with hx | hx
  · rcases List.mem_append.1 hx with hx | hx
    · simp at hx; subst hx; exact ⟨by decide, by decide⟩
    · rw [List.mem_replicate] at hx; rw [hx.2]; exact zero_B8
  · unfold lenBs at hx
    obtain ⟨i, _, rfl⟩ := List.mem_map.1 hx
    exact ⟨Int.emod_nonneg _ (by decide), Int.emod_lt_of_pos _ (by decide)⟩
/-- Byte i of the digest. -/
def outB (h : List Int) (i : Nat) : Int := rd h (i / 4) / 2 ^ (24 - 8 * (i % 4)) % 256
def outSh (h : List Int) (k : Nat) : List Int := (List.range k).foldl (fun x i => x.set i (outB h i)) (List.replicate 32 0)
theorem outSh_succ (h : List Int) (k : Nat) : outSh h (k + 1) = (outSh h k).set k (outB h k) := by simp [outSh, List.range_succ]
@[simp] theorem outSh_length (h : List Int) (k : Nat) : (outSh h k).length = 32 := by
  induction k with
  | zero => simp [outSh]
  | succ k ih => rw [outSh_succ]; simpa using ih
/-- The digest. -/
def shaOf (xs : List Int) : List Int := outSh (blocksS shaH0 (xs ++ padOf xs.length) ((xs ++ padOf xs.length).length / 64)) 32
theorem shaOf_length (xs : List Int) : (shaOf xs).length = 32 := outSh_length _ _
theorem outS_B8 (h : List Int) (k : Nat) : ∀ x ∈ outSh h k, B8 x := by
  induction k with
  | zero => intro x hx; simp [outSh] at hx; rw [hx]; exact zero_B8
  | succ k ih => rw [outSh_succ]; exact set_all ih ⟨Int.emod_nonneg _ (by decide), Int.emod_lt_of_pos _ (by decide)⟩
theorem shaOf_B8 (xs : List Int) : ∀ x ∈ shaOf xs, B8 x := outS_B8 _ _
theorem eight : ∀ {hs : List Int}, hs.length = 8 → ∃ x0 x1 x2 x3 x4 x5 x6 x7, hs = [x0, x1, x2, x3, x4, x5, x6, x7]
  | [x0, x1, x2, x3, x4, x5, x6, x7], _ => ⟨_, _, _, _, _, _, _, _, rfl⟩
theorem infoHashS : (Tryd.prog.info? 30).map (·.size) = some 32 := by kernel_rfl
theorem arrHashS : Tryd.prog.underlying 30 = some (.array 32 5) := by kernel_rfl
theorem zeroHashS : ((Tryd.prog.info? 30).bind (·.zero)).map (·.cells) = some (ints .u8 (List.replicate 32 0)).toArray := by kernel_rfl
abbrev Z32 (g : Nat) : Ent := .blk g 30 (ints .u8 (List.replicate 32 0))
end Go.Proofs.YtlikinglgegclaaDoor
/- The program's New, and the digest of lists, one behind the other. -/
namespace Go.Proofs.YtlikinglgegclaaDoor
open Go.RowKit Go.Cour
end Go.Proofs.YtlikinglgegclaaDoor
