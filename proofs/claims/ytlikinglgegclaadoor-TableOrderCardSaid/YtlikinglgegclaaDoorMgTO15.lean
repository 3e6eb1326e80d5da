import Derived.Lib.SliceRun
import Derived.Test.YtlikinglgegclaaDoorMgTO0
import Derived.Test.YtlikinglgegclaaDoorMgTO1
import Derived.Test.YtlikinglgegclaaDoorMgTO2
import Derived.Test.YtlikinglgegclaaDoorMgTO3
import Derived.Test.YtlikinglgegclaaDoorMgTO4
import Derived.Test.YtlikinglgegclaaDoorMgTO5
import Derived.Test.YtlikinglgegclaaDoorMgTO6
import Derived.Test.YtlikinglgegclaaDoorMgTO7
import Derived.Test.YtlikinglgegclaaDoorMgTO8
import Derived.Test.YtlikinglgegclaaDoorMgTO9
import Derived.Test.YtlikinglgegclaaDoorMgTO10
import Derived.Test.YtlikinglgegclaaDoorMgTO11
import Derived.Test.YtlikinglgegclaaDoorMgTO12
import Derived.Test.YtlikinglgegclaaDoorMgTO13
import Derived.Test.YtlikinglgegclaaDoorMgTO14
set_option linter.unusedSimpArgs false
set_option linter.unusedVariables false
open List (getElem_toArray getElem_cons_zero getElem_cons_succ)
/- Rows of several cells: one stored anew, one taken out. -/
namespace Go.Cour
open Go.RowKit
theorem flatten_len {s : Nat} : ∀ {rows : List (List Value)}, (∀ r ∈ rows, r.length = s) → rows.flatten.length = rows.length * s
  | [], _ => by simp
  | r :: rows, h => by
    rw [List.flatten_cons, List.length_append, h r (by simp), flatten_len (rows := rows) (fun x hx => h x (by simp [hx])), List.length_cons, Nat.succ_mul]; omega
theorem flatten_take {s : Nat} : ∀ {rows : List (List Value)} (k : Nat), (∀ r ∈ rows, r.length = s) → rows.flatten.take (k * s) = (rows.take k).flatten
  | [], k, _ => by simp
  | r :: rows, 0, _ => by simp
  | r :: rows, k + 1, h => by
    have hr := h r (by simp)
    rw [List.take_succ_cons, List.flatten_cons, List.flatten_cons, ← flatten_take (rows := rows) k (fun x hx => h x (by simp [hx])), Nat.succ_mul, List.take_append, hr, List.take_of_length_le (by omega), show k * s + s - s = k * s by omega]
theorem flatten_drop {s : Nat} : ∀ {rows : List (List Value)} (k : Nat), (∀ r ∈ rows, r.length = s) → rows.flatten.drop (k * s) = (rows.drop k).flatten
  | [], k, _ => by simp
  | r :: rows, 0, _ => by simp
  | r :: rows, k + 1, h => by
    have hr := h r (by simp)
    rw [List.drop_succ_cons, List.flatten_cons, ← flatten_drop (rows := rows) k (fun x hx => h x (by simp [hx])), Nat.succ_mul, List.drop_append, hr, List.drop_eq_nil_of_le (by omega), show k * s + s - s = k * s by omega, List.nil_append]
/-- The block behind rows of one's own. -/
theorem OwnA.blk {w : World} {e : TypeId} {s : Nat} {g n c : Nat} {rows : List (List Value)} (h : OwnA w e s (.slice (some ⟨g, 0, none⟩) n c) rows) : rows.length = n ∧ n ≤ c ∧ c ≤ maxLen ∧ ∃ cur : List Value, Blk w g e cur ∧ cur.length = c * s ∧ cur.take (n * s) = rows.flatten := by
  obtain ⟨⟨h1, h2⟩, h3⟩ := h
  rcases h2 with ⟨h2, _⟩ | ⟨g', cap, cur, h2, hg, hh, hn, hm, hs, ht⟩
  · cases h2
  · injection h2 with h4 h5 h6
    injection h4 with h4
    injection h4 with h4
    subst h4 h6
    have hl := flatten_len h3
    refine ⟨h5.symm, by omega, hm, cur.toList, by unfold Blk; simpa using hh, by simpa using hs, by rw [h5]; exact ht⟩
theorem OwnA.ofBlk {w : World} {e : TypeId} {s : Nat} {g n c : Nat} {rows : List (List Value)} {cur : List Value} (hr : ∀ r ∈ rows, r.length = s) (hn : rows.length = n) (hc : n ≤ c) (hm : c ≤ maxLen) (hb : Blk w g e cur) (hl : cur.length = c * s) (ht : cur.take (n * s) = rows.flatten) : OwnA w e s (.slice (some ⟨g, 0, none⟩) n c) rows := by
  subst hn
  exact ⟨⟨flatten_len hr, .inr ⟨g, c, cur.toArray, rfl, Nat.zero_le _, hb, hc, hm, by simpa using hl, by simpa using ht⟩⟩, hr⟩
section
variable {P : Program} {ops : Array Oper} {rest : List Oper} {o : Oper} {a : Act} {w w0 : World} {Q : Exit → Act → World → Prop} {F : Nat → Prop} {L : List Ent}
/-- One row stored anew. -/
theorem hs_storeA (hS : HS F w0 w L) (i : Nat) {e : TypeId} {s g n c : Nat} {rows : List (List Value)} (hi : L[i]? = some (.oa e s (.slice (some ⟨g, 0, none⟩) n c) rows)) (hw : Region.wanted o (yielded ops a.tmps) = true) (ty : TypeId) (x y : Operand) (ho : o.op = .store ty x y)
    (k : Nat) (hx : a.eval x = .pointer (some ⟨g, k * s, none⟩)) (vs : List Value) (hv : a.eval y = .agg vs.toArray) (h1 : ∀ v ∈ vs, v.oneCell' = true) (hs : (P.info? ty).map (·.size) = some s) (hn : vs.length = s) (hk : k < n) (d : Option Tmp) (hd : o.dst = d)
    (h : ∀ w', HS F w0 w' (L.set i (.oa e s (.slice (some ⟨g, 0, none⟩) n c) (rows.set k vs))) → wpList P ops Q rest (a.put d undef) w') : wpList P ops Q (o :: rest) a w := by
  subst hd
  have hoa := hS.oa i hi
  obtain ⟨hrn, hnc, hcm, cur, hb, hl, ht⟩ := hoa.blk
  have hks : k * s + s ≤ n * s := by rw [← Nat.succ_mul]; exact Nat.mul_le_mul_right _ hk
  have hns : n * s ≤ c * s := Nat.mul_le_mul_right _ hnc
  refine wpList_step fun K hK => ?_
  rw [if_pos hw]
  have hb2 := setCells_blk vs (k * s) hb (by omega)
  have hr2 : ∀ r ∈ rows.set k vs, r.length = s := fun r hr => by
    rcases List.mem_or_eq_of_mem_set hr with h | rfl
    · exact hoa.2 r h
    · exact hn
  refine wp_store_mid ty x y ho g (k * s) vs.toArray hx hv (by simpa using there_blk hb (by omega)) (by simpa [hn] using hs) (all_oneCell_toArray h1) (hK _ _ (h _ (hS.upd1 i hi ((setCells_upd vs w (k * s)).mono fun j _ hj => by simp [Ent.oa, Value.ownBlock, hj]) _ (OwnA.ofBlk hr2 (by rw [List.length_set]; exact hrn) hnc hcm (by simpa using hb2) ?_ ?_) fun j hj => .inl hj)))
  · simp; omega
  · rw [hn]
    have h3 : cur.take (k * s) = (rows.take k).flatten := by rw [← flatten_take k hoa.2, ← ht, List.take_take, Nat.min_eq_left (by omega)]
    have h4 : (cur.drop (k * s + s)).take (n * s - (k * s + s)) = (rows.drop (k + 1)).flatten := by
      rw [← flatten_drop (k + 1) hoa.2, ← ht, Nat.succ_mul, List.drop_take]
    have hlt : (cur.take (k * s) ++ vs).length = k * s + s := by rw [List.length_append, List.length_take, Nat.min_eq_left (by omega), hn]
    rw [← List.append_assoc, List.take_append (l₁ := cur.take (k * s) ++ vs), List.take_of_length_le (l := cur.take (k * s) ++ vs) (by omega), hlt, h4, h3, List.set_eq_take_append_cons_drop, if_pos (by omega)]
    simp
/-- append(s[:k], s[p:]...): rows moved down. -/
theorem hs_moveA (hS : HS F w0 w L) (i : Nat) {e : TypeId} {s g n c : Nat} {rows : List (List Value)} (hi : L[i]? = some (.oa e s (.slice (some ⟨g, 0, none⟩) n c) rows)) (hw : Region.wanted o (yielded ops a.tmps) = true) (x y : Operand) (t : TypeId)
    (ho : o.op = .call { callee := .builtin .append, args := #[x, y], argTypes := #[t, t] }) (ht : P.underlying t = some (.slice e)) (hs : (P.info? e).map (·.size) = some s)
    (k p m c2 : Nat) (ay : Addr) (hx : a.eval x = .slice (some ⟨g, 0, none⟩) k c) (hy : a.eval y = .slice (some ay) m c2) (hkp : k ≤ p) (hpm : p + m = n) (hay : m ≠ 0 → ay = ⟨g, p * s, none⟩) (h1 : ∀ r ∈ rows, ∀ v ∈ r, v.oneCell' = true) (d : Option Tmp) (hd : o.dst = d)
    (h : ∀ w', HS F w0 w' (L.set i (.oa e s (.slice (some ⟨g, 0, none⟩) (k + m) c) (rows.take k ++ rows.drop p))) → (∃ cur : List Value, Blk w' g e cur ∧ cur.length = c * s) → wpList P ops Q rest (a.put d (.slice (some ⟨g, 0, none⟩) (k + m) c)) w') : wpList P ops Q (o :: rest) a w := by
  subst hd
  have hoa := hS.oa i hi
  obtain ⟨hrn, hnc, hcm, cur, hb, hl, htk⟩ := hoa.blk
  obtain ⟨inf, hinf, hsz⟩ : ∃ inf, P.info? e = some inf ∧ inf.size = s := by
    cases hie : P.info? e with
    | none => simp [hie] at hs
    | some j => exact ⟨j, rfl, by simpa [hie] using hs⟩
  have hrd : ∀ r ∈ rows.drop p, r.length = s := fun r hr => hoa.2 r (List.mem_of_mem_drop hr)
  have hrt : ∀ r ∈ rows.take k, r.length = s := fun r hr => hoa.2 r (List.mem_of_mem_take hr)
  have hnl : (rows.drop p).flatten.length = m * s := by rw [flatten_len hrd, List.length_drop, hrn]; congr 1; omega
  have hks : (k + m) * s ≤ n * s := Nat.mul_le_mul_right _ (by omega)
  rw [Nat.add_mul] at hks
  have hns : n * s ≤ c * s := Nat.mul_le_mul_right _ hnc
  have hps : p * s + m * s = n * s := by rw [← Nat.add_mul, hpm]
  have hnews : ∀ j u, (rows.drop p).flatten[j]? = some u → w.cell? (ay.add j) = some u := fun j u hu => by
    have hj := (List.getElem?_eq_some_iff.1 hu).1
    rw [hnl] at hj
    have hm0 : m ≠ 0 := fun h => by subst h; simp at hj
    rw [hay hm0, add_lit, hb.cell]
    rw [← flatten_drop p hoa.2, ← htk, List.getElem?_drop, List.getElem?_take, if_pos (by omega)] at hu
    exact hu
  have hone : ∀ u ∈ (rows.drop p).flatten, u.oneCell' = true := fun u hu => by
    obtain ⟨r, hr, hur⟩ := List.mem_flatten.1 hu
    exact h1 r (List.mem_of_mem_drop hr) u hur
  have hrun := run_append_room_cells (P := P) w t o.type e inf ht hinf g 0 k c ay m c2 (rows.drop p).flatten (by rw [hsz]; exact hnl) hnews hone (by omega)
    (fun j hj => by rw [hsz, Nat.zero_add, hb.cell, List.getElem?_eq_getElem (by omega)]; rfl) (fun j hj => hb.frozen _)
  rw [hsz, Nat.zero_add] at hrun
  have hb2 := setCells_blk (rows.drop p).flatten (k * s) hb (by omega)
  refine wpList_step fun K hK => ?_
  rw [if_pos hw]
  unfold Oper.wp execOp
  simp only [ho, resolve, invoke, builtin]
  simp [hx, hy, hrun]
  refine hK _ _ (h _ (hS.upd1 i hi ((setCells_upd (rows.drop p).flatten w (k * s)).mono fun j _ hj => by simp [Ent.oa, Value.ownBlock, hj]) _ (OwnA.ofBlk (fun r hr => ?_) (by rw [List.length_append, List.length_take, List.length_drop]; omega) (by omega) hcm hb2 ?_ ?_) fun j hj => .inl hj) ⟨_, hb2, ?_⟩)
  · rcases List.mem_append.1 hr with h | h
    · exact hrt r h
    · exact hrd r h
  · simp only [List.length_append, List.length_take, List.length_drop, hnl]; omega
  · have h3 : cur.take (k * s) = (rows.take k).flatten := by rw [← flatten_take k hoa.2, ← htk, List.take_take, Nat.min_eq_left (by omega)]
    rw [List.take_append, List.take_of_length_le (by rw [List.length_append, List.length_take, hnl, Nat.add_mul]; omega), List.length_append, List.length_take, Nat.min_eq_left (by omega), hnl, Nat.add_mul, Nat.sub_self, List.take_zero, List.append_nil, h3, List.flatten_append]
  · simp only [List.length_append, List.length_take, List.length_drop, hnl]; omega
/-- What lies behind the rows is cleared. -/
theorem hs_clearA (hS : HS F w0 w L) (i : Nat) {e : TypeId} {s g n c : Nat} {rows : List (List Value)} (hi : L[i]? = some (.oa e s (.slice (some ⟨g, 0, none⟩) n c) rows)) (hw : Region.wanted o (yielded ops a.tmps) = true) (x : Operand) (t : TypeId)
    (ho : o.op = .call { callee := .builtin .clear, args := #[x], argTypes := #[t] }) (ht : P.underlying t = some (.slice e)) (z : List Value) (hz : ((P.info? e).bind (·.zero)).map (·.cells) = some z.toArray) (hzl : z.length = s) (h1 : ∀ v ∈ z, v.oneCell' = true) (c2 : Nat) (hx : a.eval x = .slice (some ⟨g, n * s, none⟩) 1 c2) (hc : n < c) (d : Option Tmp) (hd : o.dst = d)
    (h : ∀ w', HS F w0 w' L → wpList P ops Q rest (a.put d (.tuple #[])) w') : wpList P ops Q (o :: rest) a w := by
  subst hd
  have hoa := hS.oa i hi
  obtain ⟨hrn, hnc, hcm, cur, hb, hl, htk⟩ := hoa.blk
  have hns : n * s + s ≤ c * s := by rw [← Nat.succ_mul]; exact Nat.mul_le_mul_right _ hc
  obtain ⟨inf, zv, hinf, hzv, hzc⟩ : ∃ inf zv, P.info? e = some inf ∧ inf.zero = some zv ∧ zv.cells = z.toArray := by
    cases hie : P.info? e with
    | none => simp [hie] at hz
    | some j =>
      cases hjz : j.zero with
      | none => simp [hie, hjz] at hz
      | some zv => exact ⟨j, zv, rfl, hjz, by simpa [hie, hjz] using hz⟩
  have hzr : (zeroValue e).run P w = .ok zv w := by simp [zeroValue, typeInfo, hinf, hzv]
  have hzz : (Builtin.zeroCells zv.cells 1).toList = z := by
    rw [hzc]
    simp only [Builtin.zeroCells]
    apply List.ext_getElem?
    intro j
    by_cases hj : j < s
    · have hm : j % z.length = j := Nat.mod_eq_of_lt (by omega)
      simp [hj, hzl, Nat.mod_eq_of_lt hj, List.getElem?_eq_getElem (show j < z.length by omega)]
    · rw [List.getElem?_eq_none (by simp [hzl]; omega), List.getElem?_eq_none (by omega)]
  have hst := run_storeCells_cells (P := P) g (n * s) z 0 w (fun j hj => by rw [Nat.add_zero, hb.cell, List.getElem?_eq_getElem (by omega)]; rfl) (fun j hj => hb.frozen _) h1
  simp only [Nat.add_zero] at hst
  have hb2 := setCells_blk z (n * s) hb (by omega)
  have hrun : (Builtin.clear_ #[t] o.type #[.slice (some ⟨g, n * s, none⟩) 1 c2]).run P w = .ok (.tuple #[]) (w.setCells g (n * s) z) := by
    simp [Builtin.clear_, run_underlying ht, hzr, hzz, hst]
  refine wpList_step fun K hK => ?_
  rw [if_pos hw]
  unfold Oper.wp execOp
  simp only [ho, resolve, invoke, builtin]
  simp [hx, hrun]
  have h2 := hS.upd1 i hi ((setCells_upd z w (n * s)).mono fun j _ hj => by simp [Ent.oa, Value.ownBlock, hj]) (.oa e s (.slice (some ⟨g, 0, none⟩) n c) rows) (OwnA.ofBlk hoa.2 hrn hnc hcm hb2 (by simp only [List.length_append, List.length_take, List.length_drop, hzl]; omega) (by
    rw [List.append_assoc, List.take_append, List.length_take, Nat.min_eq_left (by omega), Nat.sub_self, List.take_zero, List.append_nil, List.take_take, Nat.min_self]; exact htk)) fun j hj => .inl hj
  have h3 : L.set i (.oa e s (.slice (some ⟨g, 0, none⟩) n c) rows) = L := by
    apply List.ext_getElem?
    intro j
    by_cases hij : i = j
    · subst hij
      rw [List.getElem?_set_self (List.getElem?_eq_some_iff.1 hi).1, hi]
    · rw [List.getElem?_set_ne hij]
  rw [h3] at h2
  exact hK _ _ (h _ h2)
end
end Go.Cour
/- table: Get, Set, Drop; Add of what may not be. -/
namespace Go.Proofs.YtlikinglgegclaaDoor
open Go.RowKit Go.Cour
/-- A row that can be read: its cells, and its blob's bytes. -/
def RowRd (w : World) (r : List Value) : Prop := r.length = 108 ∧ (∀ v ∈ r, v.oneCell' = true) ∧ ∃ (A : Option Addr) (n c : Nat) (xs : List Int), r[102]? = some (.slice A n c) ∧ n = xs.length ∧ (A = none → c = 0) ∧ Rd w A .u8 xs ∧ xs.length ≤ 1000000
theorem RowRd.below {w w' : World} {r : List Value} (h : RowRd w r) (hb : Below w.heap.size w w') : RowRd w' r := by
  obtain ⟨h1, h2, A, n, c, xs, h3, h4, h5, h6, h7⟩ := h
  exact ⟨h1, h2, A, n, c, xs, h3, h4, h5, h6.below hb, h7⟩
theorem rowZ_one : ∀ v ∈ rowZ, v.oneCell' = true := endC_one _ _ _ _ _ (descC_one _ _ _ _ _ _) rfl
set_option maxHeartbeats 2000000 in
set_option maxRecDepth 100000 in
theorem get_calls (rows : List (List Value)) (ids : List Int) (A : Option Addr) (n c gt : Nat) (t last : Int) (w : World) (hb : Blk w gt 66 (tabC (.slice A n c) last)) (ho : OwnA w 74 108 (.slice A n c) rows) (hok : RowsOK rows ids n) (hn : n ≤ 8) (ht : ∃ k, k < n ∧ rd ids k = t) (hrr : ∀ r ∈ rows, RowRd w r) :
    Calls Tryd.prog 33 #[.pointer (some ⟨gt, 0, none⟩), .int .i64 t] w fun e w' => ∃ (k : Nat) (R : List Value) (v : Value) (xs : List Int), e = .returned (.tuple #[.agg (R.set 102 v).toArray, .bool true]) ∧ k < n ∧ rd ids k = t ∧ rows[k]? = some R ∧ v.oneCell' = true ∧ xs.length ≤ 1000000 ∧ HS NoF w w' [.os 5 v (ints .u8 xs)] := by
  have hS := HS.start NoF w
  have c0 : w.cell? ⟨gt, 0, none⟩ = some (.slice A n c) := hb.cell 0
  have HO := hid ho
  have HB := hid hb
  have HK := hid hok
  have HRR := hid hrr
  have HZ := hid zeroRow
  have HZL : Hd (rowZ.length = 108) := hid rowZ_length
  generalize rowZ = RZ at *
  obtain ⟨fs, hfs⟩ := undRow
  clear hb ho hok hrr
  go_enter Tryd.func33, Tryd.ntmps33
  go_wp2_with (first
    | (refine alloc_blk rfl 74 rfl _ rfl RZ HZ.out ?_; intro gR w1 hga hba hBa hsa; replace hS : HS NoF w w1 [.blk gR 74 RZ] := hS.pushBlk hBa hba hga; clear hga hba hBa hsa)
    | fail)
  refine (find_calls rows ids A n c gt t last _ (hS.oldBlk HB.out (fun h => h)) (HO.out.below hS.bel) HK.out hn).mono ?_
  rintro e w2 ⟨k, b, rfl, hB, h1, h2⟩
  replace hS : HS NoF w w2 [.blk gR 74 RZ] := hS.below hB
  clear hB c0
  cases b with
  | false => obtain ⟨k', hk', he⟩ := ht; exact absurd he (h2 rfl k' hk')
  | true =>
    obtain ⟨hkn, hke⟩ := h1 rfl
    clear h1 h2
    obtain ⟨R, hR⟩ : ∃ R, rows[k]? = some R := ⟨_, List.getElem?_eq_getElem (by rw [HK.out.len]; exact hkn)⟩
    obtain ⟨A', c', hv, _, hcell⟩ := (HO.out.below hS.bel).parts
    injection hv with hv1 hv2 hv3
    subst hv1 hv3
    obtain ⟨g, rfl, hc⟩ := hcell k R hR
    have HC := hid hc
    have HR := hid hR
    have HRK := hid (HRR.out R (List.mem_of_getElem? hR))
    clear hc hcell hv2 hR
    obtain ⟨hr1, hr2, Ab, nb, cb, xs, hb1, hb2, hb3, hb4, hb5⟩ := HRK.out
    have HR1 := hid hr1
    have HSL : Hd (∀ u : Value, (R.set 102 u).length = 108) := hid (fun u => by rw [List.length_set]; exact hr1)
    have HS1 : Hd (∀ u : Value, u.oneCell' = true → ∀ v ∈ R.set 102 u, v.oneCell' = true) := hid (fun u hu v hv => by
      rcases List.mem_or_eq_of_mem_set hv with h | rfl
      · exact hr2 v h
      · exact hu)
    have HOW := hid fun w' (h : Rd w' Ab .u8 xs) => own_calls R xs Ab nb cb w' hr1 hr2 hb1 hb2 hb3 h hb5
    have HBR := hid hb4
    have HX := hid hb5
    clear hr1 hr2 hb1 hb2 hb3 hb4 HRK hb5
    have hkn9 : (k : Int) < n := by omega
    have c0 : w2.cell? ⟨gt, 0, none⟩ = some (.slice (some ⟨g, 0, none⟩) n c) := (hS.oldBlk HB.out (fun h => h)).cell 0
    go_wp2_with (first
      | (refine load_cellsT rfl 74 _ rfl g (k * 108) rfl R HC.out 108 sizeRow HR1.out _ hfs rfl _ rfl ?_)
      | (go_at_call 58; refine (HOW.out _ (hS.oldRd HBR.out (fun _ _ _ h => h))).mono ?_; rintro e w3 ⟨v, rfl, hv1, hq⟩; replace hS : HS NoF w w3 [.os 5 v (ints .u8 xs), .blk gR 74 RZ] := HS.call (A := []) hS hq (fun _ h => h.elim); clear hq c0)
      | (refine hs_storeW hS 1 rfl rfl 74 _ _ rfl rfl (R.set 102 v) rfl (HS1.out _ hv1) 108 sizeRow (HSL.out _) HZL.out _ rfl ?_; clear hS; intro w4 hS; replace hS : HS NoF w w4 [.os 5 v (ints .u8 xs), .blk gR 74 (R.set 102 v)] := hS)
      | fail)
    refine bodyPost_ret (results_str2 rfl _ _ gR _ (R.set 102 v) _ fs rfl rfl (hS.blk 1 rfl) hfs (by rw [HSL.out]; exact sizeRow)) rfl ⟨k, R, v, xs, rfl, hkn, hke, HR.out, hv1, HX.out, hS.erase 1⟩
/-- What Set changes. -/
def SFt (v : Value) (k : Nat) : Prop := v.ownBlock = some k
set_option maxHeartbeats 2000000 in
set_option maxRecDepth 100000 in
theorem set_calls (rows : List (List Value)) (ids : List Int) (R : List Value) (A : Option Addr) (n c gt : Nat) (t last : Int) (w : World) (hb : Blk w gt 66 (tabC (.slice A n c) last)) (ho : OwnA w 74 108 (.slice A n c) rows) (hsep : (Value.slice A n c).ownBlock ≠ some gt) (hok : RowsOK rows ids n) (hn : n ≤ 8) (ht : ∃ k, k < n ∧ rd ids k = t) (hr0 : R[0]? = some (.int .i64 t))
    (hr1 : R.length = 108) (hr2 : ∀ v ∈ R, v.oneCell' = true) (Ab : Option Addr) (nb cb : Nat) (xs : List Int) (hb1 : R[102]? = some (.slice Ab nb cb)) (hb2 : nb = xs.length) (hb3 : Ab = none → cb = 0) (hb4 : Rd w Ab .u8 xs) (hb5 : xs.length ≤ 1000000) (hb6 : ∀ a, Ab = some a → xs ≠ [] → (Value.slice A n c).ownBlock ≠ some a.block) :
    Calls Tryd.prog 34 #[.pointer (some ⟨gt, 0, none⟩), .agg R.toArray] w fun e w' => ∃ (k : Nat) (v : Value), e = .returned (.bool true) ∧ k < n ∧ rd ids k = t ∧ v.oneCell' = true ∧ HS (SFt (.slice A n c)) w w' [.os 5 v (ints .u8 xs), .oa 74 108 (.slice A n c) (rows.set k (R.set 102 v))] := by
  have hS := (HS.start (SFt (.slice A n c)) w).take (.oa 74 108 (.slice A n c) rows) ho (fun k hk => .inl hk) (fun f hf => by cases hf)
  have HK := hid hok
  have HB := hid hb
  have HR0 := hid hr0
  have HR1 := hid hr1
  have HSL : Hd (∀ u : Value, (R.set 102 u).length = 108) := hid (fun u => by rw [List.length_set]; exact hr1)
  have HS1 : Hd (∀ u : Value, u.oneCell' = true → ∀ v ∈ R.set 102 u, v.oneCell' = true) := hid (fun u hu v hv => by
    rcases List.mem_or_eq_of_mem_set hv with h | rfl
    · exact hr2 v h
    · exact hu)
  have HOW := hid fun w' (h : Rd w' Ab .u8 xs) => own_calls R xs Ab nb cb w' hr1 hr2 hb1 hb2 hb3 h hb5
  have HBR := hid hb4
  have HBS := hid hb6
  obtain ⟨fs, hfs⟩ := undRow
  have HSEP := hid hsep
  clear hb ho hok hr0 hr1 hr2 hb1 hb2 hb3 hb4 hb5 hb6 hsep
  obtain ⟨F, hF⟩ : ∃ F, Hd (SFt (.slice A n c) = F) := ⟨_, hid rfl⟩
  have HFB : Hd (∀ a, Ab = some a → xs ≠ [] → ¬ F a.block) := hid (by rw [← hF.out]; exact HBS.out)
  have HFG : Hd (¬ F gt) := hid (by rw [← hF.out]; exact HSEP.out)
  rw [hF.out] at hS ⊢
  go_enter Tryd.func34, Tryd.ntmps34
  go_wp2_with (first
    | (refine box_blk rfl 74 _ rfl _ rfl R rfl ?_; intro g1 w1 hga hba hBa hsa; replace hS : HS F w w1 [.blk g1 74 R, .oa 74 108 (.slice A n c) rows] := hS.pushBlk hBa hba hga; clear hga hba hBa hsa; have d0 : w1.cell? ⟨g1, 0, none⟩ = _ := (hS.cell 0 rfl 0).trans HR0.out)
    | fail)
  refine (find_calls rows ids A n c gt t last _ (hS.oldBlk HB.out HFG.out) (hS.oa 1 rfl) HK.out hn).mono ?_
  rintro e w2 ⟨k, b, rfl, hB, h1, h2⟩
  replace hS : HS F w w2 [.blk g1 74 R, .oa 74 108 (.slice A n c) rows] := hS.below hB
  clear hB d0
  cases b with
  | false => obtain ⟨k', hk', he⟩ := ht; exact absurd he (h2 rfl k' hk')
  | true =>
    obtain ⟨hkn, hke⟩ := h1 rfl
    clear h1 h2
    obtain ⟨R0, hR⟩ : ∃ R, rows[k]? = some R := ⟨_, List.getElem?_eq_getElem (by rw [HK.out.len]; exact hkn)⟩
    obtain ⟨A', c', hv, _, hcell⟩ := (hS.oa 1 rfl).parts
    injection hv with hv1 hv2 hv3
    subst hv1 hv3
    obtain ⟨g, rfl, _⟩ := hcell k R0 hR
    clear hcell hv2 hR
    have hkn9 : (k : Int) < n := by omega
    go_wp2_with fail
    try go_wp2_with fail
    refine wp_region_S (F := F) (w0 := w) (L0 := [.blk g1 74 R, .oa 74 108 (.slice (some ⟨g, 0, none⟩) n c) rows]) [6] [8]
      (fun iK u E => match iK with
        | 6 => ∃ v, u = .agg (R.set 102 v).toArray ∧ v.oneCell' = true ∧ E = [.os 5 v (ints .u8 xs)]
        | _ => False)
      ([]) (by kernel_rfl) (by kernel_rfl) hS ?_
    show wpS _ _ _ _ _ _ _ _ _ _ [0, 1, 2, 3, 4, 5, 6, 7, 8] _
    apply wpS_read (i := 0) rfl rfl ⟨_, hS⟩ rfl
    · intro w' hT'
      simp only [getElem_toArray, getElem_cons_zero, getElem_cons_succ]
      go_wp2_with fail
      first | exact ⟨rfl, rfl, rfl⟩ | rfl
    apply wpS_read (i := 1) rfl rfl ⟨_, hS⟩ rfl
    · intro w' hT'
      simp only [getElem_toArray, getElem_cons_zero, getElem_cons_succ]
      go_wp2_with fail
      first | exact ⟨rfl, rfl, rfl⟩ | rfl
    apply wpS_read (i := 2) rfl rfl ⟨_, hS⟩ rfl
    · intro w' hT'
      simp only [getElem_toArray, getElem_cons_zero, getElem_cons_succ]
      go_wp2_with fail
      first | exact ⟨rfl, rfl, rfl⟩ | rfl
    apply wpS_read (i := 3) rfl rfl ⟨_, hS⟩ rfl
    · intro w' hT'
      simp only [getElem_toArray, getElem_cons_zero, getElem_cons_succ]
      have c0 : w'.cell? ⟨gt, 0, none⟩ = some (.slice (some ⟨g, 0, none⟩) n c) := (hT'.oldBlk HB.out HFG.out).cell 0
      go_wp2_with (first
        | (refine hs_loadW hT' 0 rfl rfl 74 _ rfl rfl 108 sizeRow HR1.out _ hfs rfl _ rfl ?_)
        | fail)
      first | exact ⟨rfl, rfl, rfl⟩ | rfl
    apply wpS_read (i := 4) rfl rfl ⟨_, hS⟩ rfl
    · intro w' hT'
      simp only [getElem_toArray, getElem_cons_zero, getElem_cons_succ]
      go_wp2_with fail
      first | exact ⟨rfl, rfl, rfl⟩ | rfl
    apply wpS_read (i := 5) rfl rfl ⟨_, hS⟩ rfl
    · intro w' hT'
      simp only [getElem_toArray, getElem_cons_zero, getElem_cons_succ]
      have c0 : w'.cell? ⟨gt, 0, none⟩ = some (.slice (some ⟨g, 0, none⟩) n c) := (hT'.oldBlk HB.out HFG.out).cell 0
      go_wp2_with (first
        | (refine hs_loadW hT' 0 rfl rfl 74 _ rfl rfl 108 sizeRow HR1.out _ hfs rfl _ rfl ?_)
        | fail)
      first | exact ⟨rfl, rfl, rfl⟩ | rfl
    refine wpS_soft (i := 6) rfl rfl rfl (Nat.le_of_ble_eq_true rfl) ?_ ?_
    · intro w' hT
      simp only [getElem_toArray, getElem_cons_zero, getElem_cons_succ]
      go_wp2_with (first
        | (go_at_call 58; refine (HOW.out _ (hT.oldRd HBR.out HFB.out)).mono ?_; rintro e w6 ⟨v, rfl, hv1, hq⟩)
        | fail)
      exact SoftP.mk' (.agg (R.set 102 v).toArray) ([.os 5 v (ints .u8 xs)]) rfl (⟨v, rfl, hv1, rfl⟩) (HS.call (A := []) hT hq (fun _ h => h.elim)) (hq.bel) (fun e he j hj => by rcases hq.own e he j hj with h | h; exact h.elim; exact h)
    intro u6 E6 hK6
    obtain ⟨v, rfl, hv1, rfl⟩ := hK6
    simp only [Act.put, List.setIfInBounds_toArray, List.set_cons_zero, List.set_cons_succ]
    apply wpS_read (i := 7) rfl rfl ⟨_, hS⟩ rfl
    · intro w' hT'
      simp only [getElem_toArray, getElem_cons_zero, getElem_cons_succ]
      go_wp2_with fail
      first | exact ⟨rfl, rfl, rfl⟩ | rfl
    refine wpS_tot (i := 8) rfl rfl (by kernel_rfl) ?_
    intro w8 hT
    replace hT : HS F w w8 [.os 5 v (ints .u8 xs), .blk g1 74 R, .oa 74 108 (.slice (some ⟨g, 0, none⟩) n c) rows] := hT
    simp only [getElem_toArray, getElem_cons_zero, getElem_cons_succ]
    go_wp2_with (first
      | (refine hs_storeA hT 2 rfl rfl 74 _ _ rfl k rfl (R.set 102 v) rfl (HS1.out _ hv1) sizeRow (HSL.out _) hkn _ rfl ?_; clear hT; intro w9 hT; replace hT : HS F w w9 [.os 5 v (ints .u8 xs), .blk g1 74 R, .oa 74 108 (.slice (some ⟨g, 0, none⟩) n c) (rows.set k (R.set 102 v))] := hT)
      | fail)
    refine TotP.mk' ([.os 5 v (ints .u8 xs), .blk g1 74 R, .oa 74 108 (.slice (some ⟨g, 0, none⟩) n c) (rows.set k (R.set 102 v))]) rfl ?_ ?_
    · exact hT
    clear hT
    refine wpS_end ?_
    intro wz hT
    try dsimp only
    clear hS
    have hS : HS F w wz [.os 5 v (ints .u8 xs), .oa 74 108 (.slice (some ⟨g, 0, none⟩) n c) (rows.set k (R.set 102 v))] := hT.erase 1
    clear hT
    go_wp2_with fail
    go_ret
    exact ⟨k, v, rfl, hkn, hke, hv1, hS⟩
set_option maxHeartbeats 1000000 in
set_option maxRecDepth 100000 in
theorem set_miss (rows : List (List Value)) (ids : List Int) (R : List Value) (A : Option Addr) (n c gt : Nat) (t last : Int) (w : World) (hb : Blk w gt 66 (tabC (.slice A n c) last)) (ho : OwnA w 74 108 (.slice A n c) rows) (hok : RowsOK rows ids n) (hn : n ≤ 8) (ht : ∀ k, k < n → rd ids k ≠ t) (hr0 : R[0]? = some (.int .i64 t)) :
    Calls Tryd.prog 34 #[.pointer (some ⟨gt, 0, none⟩), .agg R.toArray] w fun e w' => e = .returned (.bool false) ∧ Below w.heap.size w w' := by
  have hS := HS.start NoF w
  have HK := hid hok
  have HB := hid hb
  have HO := hid ho
  have HR0 := hid hr0
  clear hb ho hok hr0
  go_enter Tryd.func34, Tryd.ntmps34
  go_wp2_with (first
    | (refine box_blk rfl 74 _ rfl _ rfl R rfl ?_; intro g1 w1 hga hba hBa hsa; replace hS : HS NoF w w1 [.blk g1 74 R] := hS.pushBlk hBa hba hga; clear hga hba hBa hsa; have d0 : w1.cell? ⟨g1, 0, none⟩ = _ := (hS.cell 0 rfl 0).trans HR0.out)
    | fail)
  refine (find_calls rows ids A n c gt t last _ (hS.oldBlk HB.out (fun h => h)) (HO.out.below hS.bel) HK.out hn).mono ?_
  rintro e w2 ⟨k, b, rfl, hB, h1, h2⟩
  replace hS := hS.below hB
  cases b with
  | true => obtain ⟨h3, h4⟩ := h1 rfl; exact absurd h4 (ht k h3)
  | false =>
    clear hB d0 h1 h2
    go_wp2_with fail
    go_ret
    exact ⟨rfl, hS.bel⟩
set_option maxHeartbeats 1000000 in
set_option maxRecDepth 100000 in
theorem drop_miss (rows : List (List Value)) (ids : List Int) (A : Option Addr) (n c gt : Nat) (t last : Int) (w : World) (hb : Blk w gt 66 (tabC (.slice A n c) last)) (ho : OwnA w 74 108 (.slice A n c) rows) (hok : RowsOK rows ids n) (hn : n ≤ 8) (ht : ∀ k, k < n → rd ids k ≠ t) :
    Calls Tryd.prog 32 #[.pointer (some ⟨gt, 0, none⟩), .int .i64 t] w fun e w' => e = .returned (.bool false) ∧ Below w.heap.size w w' := by
  go_enter Tryd.func32, Tryd.ntmps32
  go_wp2_with fail
  refine (find_calls rows ids A n c gt t last _ hb ho hok hn).mono ?_
  rintro e w2 ⟨k, b, rfl, hB, h1, h2⟩
  cases b with
  | true => obtain ⟨h3, h4⟩ := h1 rfl; exact absurd h4 (ht k h3)
  | false =>
    clear h1 h2
    go_wp2_with fail
    go_ret
    exact ⟨rfl, hB⟩
set_option maxHeartbeats 1000000 in
set_option maxRecDepth 100000 in
/-- Too many rows, or a number that was there. -/
theorem add_bad (R : List Value) (id last : Int) (A : Option Addr) (n c gt : Nat) {w : World} {P : Nat → Addr} (hE : Errs w P) (hb : Blk w gt 66 (tabC (.slice A n c) last)) (h0 : R[0]? = some (.int .i64 id)) (hl : 0 ≤ last ∧ last ≤ 2147483647) (hid1 : id ≤ last) :
    Calls Tryd.prog 29 #[.pointer (some ⟨gt, 0, none⟩), .agg R.toArray] w fun e w' => e = .returned (errV (P (if 8 ≤ n then 17 else 14))) ∧ Below w.heap.size w w' := by
  have hS := HS.start NoF w
  have HB := Go.Cour.hid hb
  have H0 := Go.Cour.hid h0
  have HGL : Hd (w.cell? ⟨1, 0, none⟩ = some (errV (P 17))) := Go.Cour.hid (hE.cell 17 (by omega))
  have HGO : Hd (w.cell? ⟨2, 0, none⟩ = some (errV (P 14))) := Go.Cour.hid (hE.cell 14 (by omega))
  clear hb h0 hE
  by_cases hn : 8 ≤ n
  · rw [if_pos hn]
    have hn8 : (8 : Int) ≤ n := by omega
    generalize errV (P 17) = V at *
    go_enter Tryd.func29, Tryd.ntmps29
    go_wp2_with (first
      | (refine box_blk rfl 74 _ rfl _ rfl R rfl ?_; intro g1 w1 hga hba hBa hsa; replace hS : HS NoF w w1 [.blk g1 74 R] := hS.pushBlk hBa hba hga; clear hga hba hBa hsa; have c0 : w1.cell? ⟨gt, 0, none⟩ = some (.slice A n c) := (hS.oldBlk HB.out (fun h => h)).cell 0; have cg := hS.oldCell HGL.out (fun h => h))
      | fail)
    go_ret
    exact ⟨rfl, hS.bel⟩
  · rw [if_neg hn]
    have hn8 : ¬ (8 : Int) ≤ n := by omega
    have hlt1 : id < last + 1 := by omega
    generalize errV (P 14) = V at *
    go_enter Tryd.func29, Tryd.ntmps29
    go_wp2_with (first
      | (refine box_blk rfl 74 _ rfl _ rfl R rfl ?_; intro g1 w1 hga hba hBa hsa; replace hS : HS NoF w w1 [.blk g1 74 R] := hS.pushBlk hBa hba hga; clear hga hba hBa hsa; have c0 : w1.cell? ⟨gt, 0, none⟩ = some (.slice A n c) := (hS.oldBlk HB.out (fun h => h)).cell 0)
      | fail)
    clear c0
    try go_wp2_with fail
    refine wp_region_S (F := NoF) (w0 := w) (L0 := [.blk g1 74 R]) [3] []
      (fun iK u E => match iK with
        | 3 => u = .int .i64 (last + 1) ∧ E = []
        | _ => False)
      ([]) (by kernel_rfl) (by kernel_rfl) hS ?_
    show wpS _ _ _ _ _ _ _ _ _ _ [0, 1, 2, 3, 4, 5, 6, 7, 8, 9, 10] _
    apply wpS_read (i := 0) rfl rfl ⟨_, hS⟩ rfl
    · intro w' hT'
      simp only [getElem_toArray, getElem_cons_zero, getElem_cons_succ]
      go_wp2_with fail
      first | exact ⟨rfl, rfl, rfl⟩ | rfl
    apply wpS_read (i := 1) rfl rfl ⟨_, hS⟩ rfl
    · intro w' hT'
      simp only [getElem_toArray, getElem_cons_zero, getElem_cons_succ]
      have cr := (hT'.cell 0 rfl 0).trans H0.out
      go_wp2_with fail
      first | exact ⟨rfl, rfl, rfl⟩ | rfl
    apply wpS_read (i := 2) rfl rfl ⟨_, hS⟩ rfl
    · intro w' hT'
      simp only [getElem_toArray, getElem_cons_zero, getElem_cons_succ]
      go_wp2_with fail
      first | exact ⟨rfl, rfl, rfl⟩ | rfl
    refine wpS_soft (i := 3) rfl rfl rfl (Nat.le_of_ble_eq_true rfl) ?_ ?_
    · intro w' hT
      simp only [getElem_toArray, getElem_cons_zero, getElem_cons_succ]
      go_wp2_with (first
        | (go_at_call 30; refine (next_calls last gt _ ((hT.oldBlk HB.out (fun h => h)).cell 1) hl).mono ?_; rintro e w6 ⟨rfl, rfl⟩)
        | fail)
      exact SoftP.mk' (.int .i64 (last + 1)) ([]) rfl (⟨rfl, rfl⟩) (hT) (Below.refl _ _) (fun _ h => by cases h)
    intro u3 E3 hK3
    obtain ⟨rfl, rfl⟩ := hK3
    simp only [Act.put, List.setIfInBounds_toArray, List.set_cons_zero, List.set_cons_succ]
    apply wpS_read (i := 4) rfl rfl ⟨_, hS⟩ rfl
    · intro w' hT'
      simp only [getElem_toArray, getElem_cons_zero, getElem_cons_succ]
      go_wp2_with fail
      first | exact ⟨rfl, rfl, rfl⟩ | rfl
    apply wpS_read (i := 5) rfl rfl ⟨_, hS⟩ rfl
    · intro w' hT'
      simp only [getElem_toArray, getElem_cons_zero, getElem_cons_succ]
      go_wp2_with fail
      first | exact ⟨rfl, rfl, rfl⟩ | rfl
    apply wpS_read (i := 6) rfl rfl ⟨_, hS⟩ rfl
    · intro w' hT'
      simp only [getElem_toArray, getElem_cons_zero, getElem_cons_succ]
      go_wp2_with fail
      first | exact ⟨rfl, rfl, rfl⟩ | rfl
    apply wpS_read (i := 7) rfl rfl ⟨_, hS⟩ rfl
    · intro w' hT'
      simp only [getElem_toArray, getElem_cons_zero, getElem_cons_succ]
      have cr := (hT'.cell 0 rfl 0).trans H0.out
      go_wp2_with fail
      first | exact ⟨rfl, rfl, rfl⟩ | rfl
    apply wpS_read (i := 8) rfl rfl ⟨_, hS⟩ rfl
    · intro w' hT'
      simp only [getElem_toArray, getElem_cons_zero, getElem_cons_succ]
      go_wp2_with fail
      first | exact ⟨rfl, rfl, rfl⟩ | rfl
    apply wpS_read (i := 9) rfl rfl ⟨_, hS⟩ rfl
    · intro w' hT'
      simp only [getElem_toArray, getElem_cons_zero, getElem_cons_succ]
      go_wp2_with fail
      first | exact ⟨rfl, rfl, rfl⟩ | rfl
    apply wpS_read (i := 10) rfl rfl ⟨_, hS⟩ rfl
    · intro w' hT'
      simp only [getElem_toArray, getElem_cons_zero, getElem_cons_succ]
      go_wp2_with fail
      first | exact ⟨rfl, rfl, rfl⟩ | rfl
    refine wpS_end ?_
    intro wz hT
    try dsimp only
    clear hS
    have hS : HS NoF w wz [.blk g1 74 R] := hT
    clear hT
    have cg := hS.oldCell HGO.out (fun h => h)
    go_wp2_with fail
    go_ret
    exact ⟨rfl, hS.bel⟩
end Go.Proofs.YtlikinglgegclaaDoor
/- Rows of several cells cut: s[p:], s[p:h]. -/
namespace Go.Cour
open Go.RowKit
/-- Where s[p:] begins. -/
def cutS (g c p s : Nat) : Addr := if c = p then ⟨g, 0, none⟩ else ⟨g, p * s, none⟩
theorem cutS_lt {g c p s : Nat} (h : p < c) : cutS g c p s = ⟨g, p * s, none⟩ := if_neg (by omega)
section
variable {P : Program} {ops : Array Oper} {rest : List Oper} {o : Oper} {a : Act} {w w0 : World} {Q : Exit → Act → World → Prop} {F : Nat → Prop} {L : List Ent}
theorem slice_loC (hw : Region.wanted o (yielded ops a.tmps) = true) (x y : Operand) (t : TypeId) (ho : o.op = .slice t x (some y) none none) (e : TypeId)
    (hu : P.underlying t = some (.slice e)) (s : Nat) (hsz : (P.info? e).map (·.size) = some s) (g m c p n : Nat) (hx : a.eval x = .slice (some ⟨g, 0, none⟩) m c) (hy : a.eval y = .int .i64 (p : Int)) (hpm : p ≤ m) (hn : m - p = n) (d : Option Tmp) (hd : o.dst = d)
    (hk : wpList P ops Q rest (a.put d (.slice (some (cutS g c p s)) n (c - p))) w) : wpList P ops Q (o :: rest) a w := by
  subst hd hn
  obtain ⟨i, hi, hs⟩ : ∃ i, P.info? e = some i ∧ i.size = s := by
    cases hie : P.info? e with
    | none => simp [hie] at hsz
    | some i => exact ⟨i, rfl, by simpa [hie] using hsz⟩
  refine wpList_step fun K hK => ?_
  rw [if_pos hw]
  have hs2 : (sizeOf e).run P w = .ok s w := by simp [sizeOf, typeInfo, hi, hs]
  have hrun : (Instr.slice t (.slice (some ⟨g, 0, none⟩) m c) (some (.int .i64 (p : Int))) none none).run P w = .ok (.slice (some (cutS g c p s)) (m - p) (c - p)) w := by
    by_cases hne : c = p
    · subst hne; simp [Instr.slice, run_underlying hu, Instr.sliceBounds, run_sliceBound, hs2, hpm, cutS]
    · simp [Instr.slice, run_underlying hu, Instr.sliceBounds, run_sliceBound, hs2, hpm, hne, add_lit, cutS]
  have hrun2 : (Instr.sliceAt t (.slice (some ⟨g, 0, none⟩) m c) (some (.int .i64 (p : Int))) none none).run P w = .ok (.slice (some (cutS g c p s)) (m - p) (c - p)) w := by
    rw [← hrun]; simp [Instr.sliceAt, run_underlying hu]
  unfold Oper.wp execOp
  simp only [ho, hx, hy, Option.map_some, Option.map_none]
  simp [hrun2]
  exact hK _ _ hk
theorem slice_twoS (hw : Region.wanted o (yielded ops a.tmps) = true) (x y z : Operand) (t : TypeId) (ho : o.op = .slice t x (some y) (some z) none) (e : TypeId)
    (hu : P.underlying t = some (.slice e)) (s : Nat) (hsz : (P.info? e).map (·.size) = some s) (g m c p h n : Nat) (hx : a.eval x = .slice (some ⟨g, 0, none⟩) m c) (hy : a.eval y = .int .i64 (p : Int)) (hz : a.eval z = .int .i64 (h : Int)) (hph : p ≤ h) (hhc : h ≤ c) (hpc : p < c) (hn : h - p = n) (d : Option Tmp) (hd : o.dst = d)
    (hk : wpList P ops Q rest (a.put d (.slice (some ⟨g, p * s, none⟩) n (c - p))) w) : wpList P ops Q (o :: rest) a w := by
  subst hd hn
  obtain ⟨i, hi, hs⟩ : ∃ i, P.info? e = some i ∧ i.size = s := by
    cases hie : P.info? e with
    | none => simp [hie] at hsz
    | some i => exact ⟨i, rfl, by simpa [hie] using hsz⟩
  refine wpList_step fun K hK => ?_
  rw [if_pos hw]
  have hs2 : (sizeOf e).run P w = .ok s w := by simp [sizeOf, typeInfo, hi, hs]
  have hne : ¬ c = p := by omega
  have hrun : (Instr.slice t (.slice (some ⟨g, 0, none⟩) m c) (some (.int .i64 (p : Int))) (some (.int .i64 (h : Int))) none).run P w = .ok (.slice (some ⟨g, p * s, none⟩) (h - p) (c - p)) w := by
    simp [Instr.slice, run_underlying hu, Instr.sliceBounds, run_sliceBound, hs2, hph, hhc, hne, add_lit]
  have hrun2 : (Instr.sliceAt t (.slice (some ⟨g, 0, none⟩) m c) (some (.int .i64 (p : Int))) (some (.int .i64 (h : Int))) none).run P w = .ok (.slice (some ⟨g, p * s, none⟩) (h - p) (c - p)) w := by
    rw [← hrun]; simp [Instr.sliceAt, run_underlying hu]
  unfold Oper.wp execOp
  simp only [ho, hx, hy, hz, Option.map_some, Option.map_none]
  simp [hrun2]
  exact hK _ _ hk
end
end Go.Cour
/- table: one row taken out (slices.Delete), Drop. -/
namespace Go.Proofs.YtlikinglgegclaaDoor
open Go.RowKit Go.Cour
set_option maxHeartbeats 2000000 in
set_option maxRecDepth 100000 in
/-- slices.Delete of one row. -/
theorem del_calls (rows : List (List Value)) (g n c k : Nat) (w : World) (ho : OwnA w 74 108 (.slice (some ⟨g, 0, none⟩) n c) rows) (hk : k < n) (hn : n ≤ 8) (h1 : ∀ r ∈ rows, ∀ v ∈ r, v.oneCell' = true) :
    Calls Tryd.prog 60 #[.slice (some ⟨g, 0, none⟩) n c, .int .i64 (k : Int), .int .i64 ((k : Int) + 1)] w fun e w' => e = .returned (.slice (some ⟨g, 0, none⟩) (n - 1 : Nat) c) ∧ HS (SFt (.slice (some ⟨g, 0, none⟩) n c)) w w' [.oa 74 108 (.slice (some ⟨g, 0, none⟩) (n - 1) c) (rows.take k ++ rows.drop (k + 1))] := by
  have hS := (HS.start (SFt (.slice (some ⟨g, 0, none⟩) n c)) w).take (.oa 74 108 (.slice (some ⟨g, 0, none⟩) n c) rows) ho (fun k hk => .inl hk) (fun f hf => by cases hf)
  obtain ⟨hrn, hnc, hcm, _⟩ := ho.blk
  have H1 := hid h1
  clear ho h1
  obtain ⟨F, hF⟩ : ∃ F, Hd (SFt (.slice (some ⟨g, 0, none⟩) n c) = F) := ⟨_, hid rfl⟩
  rw [hF.out] at hS ⊢
  clear hF
  obtain ⟨p, hp⟩ : ∃ p : Nat, (k : Int) + 1 = (p : Int) := ⟨k + 1, by omega⟩
  have hp2 : k + 1 = p := by omega
  obtain ⟨m, hm⟩ : ∃ m : Nat, n - p = m := ⟨_, rfl⟩
  obtain ⟨q, hq⟩ : ∃ q : Nat, n - 1 = q := ⟨_, rfl⟩
  have HKM : Hd (k + m = q) := hid (by omega)
  have HPM : Hd (p + m = n) := hid (by omega)
  have HMP : Hd (n - p = m) := hid hm
  have HQN : Hd (q + 1 = n) := hid (by omega)
  rw [hp, hp2, hq]
  have hkp : ¬ (k : Int) = (p : Int) := by omega
  have hkp2 : k ≤ p := by omega
  have hpn : p ≤ n := by omega
  have hqn : q ≤ n := by omega
  have hqc : q < c := by omega
  have hnc1 : n ≤ c := hnc
  have HZ := hid zeroRow
  have HZL : Hd (rowZ.length = 108) := hid rowZ_length
  have HZ1 : Hd (∀ v ∈ rowZ, v.oneCell' = true) := hid rowZ_one
  generalize rowZ = RZ at *
  have HCM := hid hcm
  clear hcm hq hm hp hp2 hrn
  go_enter Tryd.func60, Tryd.ntmps60
  go_wp2_with fail
  try go_wp2_with fail
  refine wp_region_S (F := F) (w0 := w) (L0 := [.oa 74 108 (.slice (some ⟨g, 0, none⟩) n c) rows]) [] [6]
    (fun iK u E => match iK with
      | _ => False)
    ([]) (by kernel_rfl) (by kernel_rfl) hS ?_
  show wpS _ _ _ _ _ _ _ _ _ _ [0, 1, 2, 3, 4, 5, 6, 7] _
  apply wpS_read (i := 0) rfl rfl ⟨_, hS⟩ rfl
  · intro w' hT'
    simp only [getElem_toArray, getElem_cons_zero, getElem_cons_succ]
    go_wp2_with fail
    first | exact ⟨rfl, rfl, rfl⟩ | rfl
  apply wpS_read (i := 1) rfl rfl ⟨_, hS⟩ rfl
  · intro w' hT'
    simp only [getElem_toArray, getElem_cons_zero, getElem_cons_succ]
    go_wp2_with fail
    first | exact ⟨rfl, rfl, rfl⟩ | rfl
  apply wpS_read (i := 2) rfl rfl ⟨_, hS⟩ rfl
  · intro w' hT'
    simp only [getElem_toArray, getElem_cons_zero, getElem_cons_succ]
    go_wp2_with (first
      | (refine slice_hiS rfl _ _ _ rfl 74 rfl 108 sizeRow g 0 n c k rfl rfl (by omega) (by omega) _ rfl ?_)
      | (refine slice_loC rfl _ _ _ rfl 74 rfl 108 sizeRow g n c p m rfl rfl hpn HMP.out _ rfl ?_)
      | fail)
    first | exact ⟨rfl, rfl, rfl⟩ | rfl
  apply wpS_read (i := 3) rfl rfl ⟨_, hS⟩ rfl
  · intro w' hT'
    simp only [getElem_toArray, getElem_cons_zero, getElem_cons_succ]
    go_wp2_with fail
    first | exact ⟨rfl, rfl, rfl⟩ | rfl
  apply wpS_read (i := 4) rfl rfl ⟨_, hS⟩ rfl
  · intro w' hT'
    simp only [getElem_toArray, getElem_cons_zero, getElem_cons_succ]
    go_wp2_with fail
    first | exact ⟨rfl, rfl, rfl⟩ | rfl
  apply wpS_read (i := 5) rfl rfl ⟨_, hS⟩ rfl
  · intro w' hT'
    simp only [getElem_toArray, getElem_cons_zero, getElem_cons_succ]
    go_wp2_with (first
      | (refine slice_hiS rfl _ _ _ rfl 74 rfl 108 sizeRow g 0 n c k rfl rfl (by omega) (by omega) _ rfl ?_)
      | (refine slice_loC rfl _ _ _ rfl 74 rfl 108 sizeRow g n c p m rfl rfl hpn HMP.out _ rfl ?_)
      | fail)
    first | exact ⟨rfl, rfl, rfl⟩ | rfl
  refine wpS_tot (i := 6) rfl rfl (by kernel_rfl) ?_
  intro w6 hT
  replace hT : HS F w w6 [.oa 74 108 (.slice (some ⟨g, 0, none⟩) n c) rows] := hT
  simp only [getElem_toArray, getElem_cons_zero, getElem_cons_succ]
  go_wp2_with (first
    | (refine hs_moveA hT 0 rfl rfl _ _ _ rfl rfl sizeRow k p m _ _ rfl rfl hkp2 HPM.out (fun h => cutS_lt (by have := HPM.out; omega)) H1.out _ rfl ?_; clear hT; intro w9 hT _; rw [HKM.out] at hT ⊢; replace hT : HS F w w9 [.oa 74 108 (.slice (some ⟨g, 0, none⟩) q c) (rows.take k ++ rows.drop p)] := hT)
    | fail)
  refine TotP.mk' ([.oa 74 108 (.slice (some ⟨g, 0, none⟩) q c) (rows.take k ++ rows.drop p)]) rfl ?_ ?_
  · exact hT
  have hTa := hT
  clear hT
  apply wpS_read (i := 7) rfl rfl ⟨_, hTa⟩ rfl
  · intro w' hT'
    simp only [getElem_toArray, getElem_cons_zero, getElem_cons_succ]
    go_wp2_with fail
    first | exact ⟨rfl, rfl, rfl⟩ | rfl
  refine wpS_end ?_
  intro wz hT
  try dsimp only
  clear hS
  have hS : HS F w wz [.oa 74 108 (.slice (some ⟨g, 0, none⟩) q c) (rows.take k ++ rows.drop p)] := hT
  clear hT
  go_wp2_with (first
    | (refine slice_twoS rfl _ _ _ _ rfl 74 rfl 108 sizeRow g q c q n 1 rfl rfl rfl hqn hnc1 hqc (by have := HQN.out; omega) _ rfl ?_)
    | (refine hs_clearA hS 0 rfl rfl _ _ rfl rfl RZ HZ.out HZL.out HZ1.out _ rfl hqc _ rfl ?_; clear hS; intro w7 hS)
    | fail)
  go_ret
  exact ⟨rfl, hS⟩
end Go.Proofs.YtlikinglgegclaaDoor
/- table: Drop, All. -/
namespace Go.Proofs.YtlikinglgegclaaDoor
open Go.RowKit Go.Cour
set_option maxHeartbeats 2000000 in
set_option maxRecDepth 100000 in
theorem drop_calls (rows : List (List Value)) (ids : List Int) (A : Option Addr) (n c gt : Nat) (t last : Int) (w : World) (hb : Blk w gt 66 (tabC (.slice A n c) last)) (ho : OwnA w 74 108 (.slice A n c) rows) (hsep : (Value.slice A n c).ownBlock ≠ some gt) (hok : RowsOK rows ids n) (hn : n ≤ 8) (ht : ∃ k, k < n ∧ rd ids k = t) (h1 : ∀ r ∈ rows, ∀ v ∈ r, v.oneCell' = true) :
    Calls Tryd.prog 32 #[.pointer (some ⟨gt, 0, none⟩), .int .i64 t] w fun e w' => ∃ k : Nat, e = .returned (.bool true) ∧ k < n ∧ rd ids k = t ∧ HS (TF gt (.slice A n c)) w w' [.blk gt 66 (tabC (.slice A (n - 1) c) last), .oa 74 108 (.slice A (n - 1) c) (rows.take k ++ rows.drop (k + 1))] := by
  have hS := tab_take hb ho hsep
  have HK := hid hok
  have H1 := hid h1
  clear hb ho hok h1
  obtain ⟨F, hF⟩ : ∃ F, Hd (TF gt (.slice A n c) = F) := ⟨_, hid rfl⟩
  rw [hF.out] at hS ⊢
  clear hF
  go_enter Tryd.func32, Tryd.ntmps32
  go_wp2_with fail
  refine (find_calls rows ids A n c gt t last _ (hS.blk 0 rfl) (hS.oa 1 rfl) HK.out hn).mono ?_
  rintro e w2 ⟨k, b, rfl, hB, h1, h2⟩
  replace hS := hS.below hB
  clear hB
  cases b with
  | false => obtain ⟨k', hk', he⟩ := ht; exact absurd he (h2 rfl k' hk')
  | true =>
    obtain ⟨hkn, hke⟩ := h1 rfl
    clear h1 h2
    obtain ⟨R0, hR⟩ : ∃ R, rows[k]? = some R := ⟨_, List.getElem?_eq_getElem (by rw [HK.out.len]; exact hkn)⟩
    obtain ⟨A', c', hv, _, hcell⟩ := (hS.oa 1 rfl).parts
    injection hv with hv1 hv2 hv3
    subst hv1 hv3
    obtain ⟨g, rfl, _⟩ := hcell k R0 hR
    clear hcell hv2 hR hsep
    obtain ⟨q, hq⟩ : ∃ q : Nat, Hd (n - 1 = q) := ⟨_, hid rfl⟩
    obtain ⟨rows2, hr2⟩ : ∃ r, Hd (rows.take k ++ rows.drop (k + 1) = r) := ⟨_, hid rfl⟩
    have HDEL := hid fun w' (h : OwnA w' 74 108 (.slice (some ⟨g, 0, none⟩) n c) rows) => del_calls rows g n c k w' h hkn hn H1.out
    rw [hq.out, hr2.out] at HDEL
    have c0 : w2.cell? ⟨gt, 0, none⟩ = some (.slice (some ⟨g, 0, none⟩) n c) := hS.cell 0 rfl 0
    go_wp2_with (first
      | (go_at_call 60; refine (HDEL.out _ (hS.oa 1 rfl)).mono ?_; rintro e w3 ⟨rfl, hq2⟩
         have hS3 : HS F w w3 [.oa 74 108 (.slice (some ⟨g, 0, none⟩) q c) rows2, .blk gt 66 (tabC (.slice (some ⟨g, 0, none⟩) n c) last)] := HS.call (A := [.oa 74 108 (.slice (some ⟨g, 0, none⟩) n c) rows]) (hS.perm (List.Perm.swap ..)) hq2 (fun j hj => ⟨_, List.mem_singleton_self _, hj⟩)
         clear hS hq2 c0)
      | (refine hs_store1 hS3 1 rfl rfl _ _ _ rfl 0 rfl _ rfl rfl rfl (by simp [tabC]) _ rfl ?_; clear hS3; intro w4 hS; replace hS : HS F w w4 [.oa 74 108 (.slice (some ⟨g, 0, none⟩) q c) rows2, .blk gt 66 (tabC (.slice (some ⟨g, 0, none⟩) q c) last)] := hS)
      | fail)
    go_ret
    exact ⟨k, rfl, hkn, hke, by rw [hq.out, hr2.out]; exact hS.perm (List.Perm.swap ..)⟩
set_option maxHeartbeats 2000000 in
set_option maxRecDepth 100000 in
theorem tall_calls (rows : List (List Value)) (ids : List Int) (A : Option Addr) (n c gt : Nat) (last : Int) (w : World) (hb : Blk w gt 66 (tabC (.slice A n c) last)) (ho : OwnA w 74 108 (.slice A n c) rows) (hok : RowsOK rows ids n) (hn : n ≤ 8) (hrr : ∀ r ∈ rows, RowRd w r) :
    Calls Tryd.prog 31 #[.pointer (some ⟨gt, 0, none⟩)] w fun e w' => ∃ (A' : Option Addr) (c' : Nat) (rows' : List (List Value)), e = .returned (.slice A' n c') ∧ n ≤ c' ∧ RowsOK rows' ids n ∧ HS NoF w w' [.oa 74 108 (.slice A' n c') rows'] := by
  have HB := hid hb
  have HO := hid ho
  have HK := hid hok
  have HRR := hid hrr
  have c0 : w.cell? ⟨gt, 0, none⟩ = some (.slice A n c) := hb.cell 0
  obtain ⟨fs, hfs⟩ := undRow
  have HZ := hid zeroRow
  have HZL : Hd (rowZ.length = 108) := hid rowZ_length
  generalize rowZ = RZ at *
  clear hb ho hok hrr
  go_enter Tryd.func31, Tryd.ntmps31
  go_wp2_with fail
  clear c0
  go_loopg [3, 5, 11] n (fun kq v3 v5 v11 wr => ∃ (i : Nat) (A' : Option Addr) (c' : Nat) (rows' : List (List Value)), v3 = .slice A' i c' ∧ v11 = .int .i64 i ∧ Hd (i + kq = n) ∧ Hd (i ≤ c') ∧ Hd (rows'.length = i) ∧ Hd (∀ (j : Nat) (r : List Value), rows'[j]? = some r → r.length = 108 ∧ r[0]? = some (.int .i64 (rd ids j))) ∧ Hd (HS NoF w wr [.oa 74 108 (.slice A' i c') rows']))
  case atStart => exact ⟨0, none, 0, [], rfl, rfl, hid (by omega), hid (by omega), hid rfl, hid (fun j r h => by simp at h), hid ((HS.start NoF w).push (Below.refl _ _) (.oa 74 108 (.slice none 0 0) []) (OwnA.nil _ _ _) (fun k hk => by simp [Ent.oa, Value.ownBlock] at hk))⟩
  case round =>
    obtain ⟨i, A', c', rows', rfl, rfl, hq, hic, HRL, HRE, HSX⟩ := hrel
    have hS := HSX.out
    clear HSX
    have hin : i < n ∨ i = n := by have := hq.out; omega
    rcases hin with hin | hin
    · obtain ⟨R, hR⟩ : ∃ R, rows[i]? = some R := ⟨_, List.getElem?_eq_getElem (by rw [HK.out.len]; exact hin)⟩
      obtain ⟨A2, c2, hv, _, hcell⟩ := HO.out.parts
      injection hv with hv1 hv2 hv3
      subst hv1 hv3
      obtain ⟨g, rfl, hc⟩ := hcell i R hR
      have HC : Hd (∀ m v, R[m]? = some v → wr.cell? ⟨g, i * 108 + m, none⟩ = some v) := hid (fun m v h => by obtain ⟨A3, c3, hv3, _, hcell3⟩ := (HO.out.below hS.bel).parts; injection hv3 with h31 h32 h33; subst h33; obtain ⟨g3, h34, hc3⟩ := hcell3 i R hR; rw [← h31] at h34; injection h34 with h34; injection h34 with h34; subst h34; exact hc3 m v h)
      have HE := hid (HK.out.each i R hR)
      have HRK := hid (HRR.out R (List.mem_of_getElem? hR))
      clear hc hcell hv2 hR
      obtain ⟨hr1, hr2, Ab, nb, cb, xs, hb1, hb2, hb3, hb4, hb5⟩ := HRK.out
      have HR1 := hid hr1
      have HR2 := hid hr2
      have HOW := hid fun w' (h : Rd w' Ab .u8 xs) => own_calls R xs Ab nb cb w' hr1 hr2 hb1 hb2 hb3 h hb5
      have HBR := hid hb4
      clear hr1 hr2 hb1 hb2 hb3 hb4 HRK hb5
      have hin9 : (i : Int) < n := by omega
      go_wp2_with (first
        | (refine load_cellsT rfl 74 _ rfl g (i * 108) rfl R HC.out 108 sizeRow HR1.out _ hfs rfl _ rfl ?_)
        | (refine alloc_blk rfl 74 rfl _ rfl RZ HZ.out ?_; intro g5 w5 hga hba hBa hsa; replace hS : HS NoF w w5 [.blk g5 74 RZ, .oa 74 108 (.slice A' i c') rows'] := hS.pushBlk hBa hba hga; clear hga hba hBa hsa)
        | (refine hs_storeW hS 0 rfl rfl 74 _ _ rfl rfl R rfl HR2.out 108 sizeRow HR1.out HZL.out _ rfl ?_; clear hS; intro w4 hS; replace hS : HS NoF w w4 [.blk g5 74 R, .oa 74 108 (.slice A' i c') rows'] := hS)
        | (refine hs_loadW hS 0 rfl rfl 74 _ rfl rfl 108 sizeRow HR1.out _ hfs rfl _ rfl ?_)
        | (go_at_call 58; refine (HOW.out _ (hS.oldRd HBR.out (fun _ _ _ h => h))).mono ?_; rintro e w6 ⟨v, rfl, hv1, hq6⟩
           replace hS : HS NoF w w6 [.os 5 v (ints .u8 xs), .blk g5 74 R, .oa 74 108 (.slice A' i c') rows'] := HS.call (A := []) hS hq6 (fun _ h => h.elim)
           clear hq6
           have HRL2 : Hd ((R.set 102 v).length = 108) := hid (by rw [List.length_set]; exact HR1.out)
           have HR12 : Hd (∀ u ∈ R.set 102 v, u.oneCell' = true) := hid (fun u hu => by
             rcases List.mem_or_eq_of_mem_set hu with h | rfl
             · exact HR2.out u h
             · exact hv1)
           have HR02 : Hd ((R.set 102 v)[0]? = some (.int .i64 (rd ids i))) := hid (by rw [List.getElem?_set_ne (by omega)]; exact HE.out.2))
        | (refine literal_agg rfl 64 74 _ rfl (R.set 102 v) 108 rfl HRL2.out undRows sizeRow zeroRowS (by omega) (by omega) ?_; intro gl w7 hga hba hBa hsa; replace hS : HS NoF w w7 [.blk gl 74 (R.set 102 v), .os 5 v (ints .u8 xs), .blk g5 74 R, .oa 74 108 (.slice A' i c') rows'] := hS.pushBlk hBa hba hga; clear hga hba hBa hsa)
        | (refine hs_appA hS 3 rfl rfl _ _ 64 rfl 200 undRows infoRow (by omega) rfl gl (R.set 102 v) rfl (hS.blk 0 rfl) HRL2.out HR12.out (by rw [HRL.out]; omega) (by rw [HRL.out]; omega) _ rfl ?_; clear hS; intro A8 n8 c8 w8 hn8 hc8 hS
           replace hS : HS NoF w w8 [.oa 74 108 (.slice A8 n8 c8) (rows' ++ [R.set 102 v])] := ((hS.erase 0).erase 0).erase 0
           rw [HRL.out] at hn8
           subst hn8)
        | fail)
      go_roundg (gk - 1)
      case measure => have := hq.out; omega
      case rel =>
        refine ⟨i + 1, A8, c8, rows' ++ [R.set 102 v], rfl, by go_num, hid (by have := hq.out; omega), hid (by omega), hid (by rw [List.length_append, HRL.out]; rfl), hid (fun j r hj => ?_), hid hS⟩
        by_cases hji : j < i
        · rw [List.getElem?_append_left (by rw [HRL.out]; exact hji)] at hj
          exact HRE.out j r hj
        · have hji2 : j = i := by
            have := (List.getElem?_eq_some_iff.1 hj).1
            rw [List.length_append, HRL.out, List.length_singleton] at this; omega
          subst hji2
          rw [List.getElem?_append_right (by rw [HRL.out]; omega), HRL.out, Nat.sub_self] at hj
          simp only [List.getElem?_cons_zero, Option.some.injEq] at hj
          subst hj
          exact ⟨HRL2.out, HR02.out⟩
    · subst hin
      go_wp2_with fail
      go_ret
      exact ⟨A', c', rows', rfl, hic.out, ⟨HRL.out, HK.out.idl, HRE.out, HK.out.sorted⟩, hS⟩
end Go.Proofs.YtlikinglgegclaaDoor
/- A table as things side by side in memory. -/
namespace Go.Cour
open Go.RowKit
theorem HS.join {F : Nat → Prop} {w0 w : World} {E L : List Ent} (h : HS F w0 w (E ++ L)) (e : Ent) (he : e.p w) (hF : ∀ k, e.F k → ∃ f ∈ E, f.F k) : HS F w0 w (e :: L) := by
  have hm := mem_iff.1 h.mem
  have hp := List.pairwise_append.1 hm.2
  refine ⟨h.upd, mem_iff.2 ⟨fun f hf => ?_, List.pairwise_cons.2 ⟨fun f hf k hk hfk => ?_, hp.2.1⟩⟩, fun f hf k hk => ?_⟩
  · rcases List.mem_cons.1 hf with rfl | hf
    · exact he
    · exact hm.1 f (List.mem_append_right _ hf)
  · obtain ⟨f', hf', hk'⟩ := hF k hk
    exact hp.2.2 f' hf' f hf k hk' hfk
  · rcases List.mem_cons.1 hf with rfl | hf
    · obtain ⟨f', hf', hk'⟩ := hF k hk
      exact h.own f' (List.mem_append_left _ hf') k hk'
    · exact h.own f (List.mem_append_right _ hf) k hk
theorem pm4 {α : Type} (a b c d : α) (L : List α) : (a :: b :: c :: d :: L).Perm (c :: d :: a :: b :: L) := (List.perm_append_comm (l₁ := [a, b]) (l₂ := [c, d])).append_right L
theorem pm3 {α : Type} (a b c : α) (L : List α) : (a :: b :: c :: L).Perm (b :: c :: a :: L) := (List.perm_append_comm (l₁ := [a]) (l₂ := [b, c])).append_right L
theorem pm3' {α : Type} (a b c : α) (L : List α) : (a :: b :: c :: L).Perm (c :: a :: b :: L) := (List.perm_append_comm (l₁ := [a, b]) (l₂ := [c])).append_right L
theorem pm3a {α : Type} (a b c : α) (L : List α) : (a :: b :: c :: L).Perm (b :: a :: c :: L) := List.Perm.swap ..
theorem pmS {α : Type} (a b c d : α) (L : List α) : (a :: b :: c :: d :: L).Perm (a :: d :: c :: b :: L) := ((pm3' b c d L).trans (List.Perm.cons _ (List.Perm.swap ..))).cons a
/-- A row, and what its blob holds. -/
def RowGood (e : TypeId) (w : World) (r : List Value) : Prop := r.length = 108 ∧ (∀ v ∈ r, v.oneCell' = true) ∧ ∃ (v : Value) (xs : List Int), r[102]? = some v ∧ OwnS w e v (ints .u8 xs) ∧ xs.length ≤ 1000000
def Ent.rds (e : TypeId) (rows : List (List Value)) : Ent where
  F := fun j => ∃ r ∈ rows, ∃ v, r[102]? = some v ∧ v.ownBlock = some j
  p := fun w => ∀ r ∈ rows, RowGood e w r
  lt := fun {w} h j hj => by
    obtain ⟨r, hr, v, hv, hvj⟩ := hj
    obtain ⟨_, _, v', xs, h1, h2, _⟩ := h r hr
    rw [hv] at h1
    injection h1 with h1
    subst h1
    exact h2.lt j hvj
  kept := fun {w w'} h hk r hr => by
    obtain ⟨h1, h2, v, xs, h3, h4, h5⟩ := h r hr
    exact ⟨h1, h2, v, xs, h3, h4.kept fun j hj => hk j ⟨r, hr, v, h3, hj⟩, h5⟩
theorem HS.mergeRds {F : Nat → Prop} {w0 w : World} {L : List Ent} {e : TypeId} {v : Value} {xs : List Int} {rows : List (List Value)} (hS : HS F w0 w (.os e v (ints .u8 xs) :: .rds e rows :: L)) (rows' : List (List Value)) (hx : xs.length ≤ 1000000)
    (h : ∀ r ∈ rows', r ∈ rows ∨ (r.length = 108 ∧ (∀ v ∈ r, v.oneCell' = true) ∧ r[102]? = some v)) : HS F w0 w (.rds e rows' :: L) := by
  have h1 : OwnS w e v (ints .u8 xs) := hS.os 0 rfl
  have h2 : ∀ r ∈ rows, RowGood e w r := hS.mem.get (i := 1) rfl
  refine HS.join (E := [.os e v (ints .u8 xs), .rds e rows]) hS _ (fun r hr => ?_) (fun k hk => ?_)
  · rcases h r hr with h3 | ⟨h3, h4, h5⟩
    · exact h2 r h3
    · exact ⟨h3, h4, v, xs, h5, h1, hx⟩
  · obtain ⟨r, hr, v', hv', hk⟩ := hk
    rcases h r hr with h3 | ⟨h3, h4, h5⟩
    · exact ⟨.rds e rows, by simp, r, h3, v', hv', hk⟩
    · rw [hv'] at h5
      injection h5 with h5
      subst h5
      exact ⟨.os e v' (ints .u8 xs), by simp, hk⟩
theorem HS.subRds {F : Nat → Prop} {w0 w : World} {L : List Ent} {e : TypeId} {rows : List (List Value)} (hS : HS F w0 w (.rds e rows :: L)) (rows' : List (List Value)) (h : ∀ r ∈ rows', r ∈ rows) : HS F w0 w (.rds e rows' :: L) := by
  have h2 : ∀ r ∈ rows, RowGood e w r := hS.mem.get (i := 0) rfl
  exact HS.join (E := [.rds e rows]) hS _ (fun r hr => h2 r (h r hr)) (fun k ⟨r, hr, v, hv, hk⟩ => ⟨_, List.mem_singleton_self _, r, h r hr, v, hv, hk⟩)
end Go.Cour
namespace Go.Proofs.YtlikinglgegclaaDoor
open Go.RowKit Go.Cour
theorem rowRd_of {w : World} {r : List Value} (h : RowGood 5 w r) : RowRd w r := by
  obtain ⟨h1, h2, v, xs, h3, h4, h5⟩ := h
  obtain ⟨A, c, rfl, _, _, hA, _, _⟩ := h4.parts
  rw [ints_length] at *
  exact ⟨h1, h2, A, xs.length, c, xs, h3, rfl, hA, h4.rd rfl, h5⟩
/-- A table: its two cells, its rows, their blobs. -/
def tabL (gt : Nat) (v : Value) (last : Int) (rows : List (List Value)) : List Ent := [.blk gt 66 (tabC v last), .oa 74 108 v rows, .rds 5 rows]
section
variable {F : Nat → Prop} {w0 w : World} {L : List Ent} {gt : Nat} {A : Option Addr} {n c : Nat} {last : Int} {rows : List (List Value)}
theorem tab_sep (hS : HS F w0 w (tabL gt (.slice A n c) last rows ++ L)) : (Value.slice A n c).ownBlock ≠ some gt := fun h => hS.mem.apart (i := 1) (j := 0) rfl rfl (by omega) gt h rfl
theorem tab_rd (hS : HS F w0 w (tabL gt (.slice A n c) last rows ++ L)) : ∀ r ∈ rows, RowRd w r := fun r hr => rowRd_of ((show ∀ r ∈ rows, RowGood 5 w r from hS.mem.get (i := 2) rfl) r hr)
theorem tab_new (w : World) (F : Nat → Prop) (w0 : World) (L : List Ent) (hS : HS F w0 w (.blk gt 66 (tabC (.slice none 0 0) 0) :: L)) : HS F w0 w (tabL gt (.slice none 0 0) 0 [] ++ L) := by
  have h1 := (hS.push (Below.refl _ _) (.rds 5 []) (fun r hr => by cases hr) (fun k hk => by obtain ⟨r, hr, _⟩ := hk; cases hr)).push (Below.refl _ _) (.oa 74 108 (.slice none 0 0) []) (OwnA.nil _ _ _) (fun k hk => by simp [Ent.oa, Value.ownBlock] at hk)
  exact h1.perm (pm3' _ _ _ _)
theorem taddH (R : List Value) (xs : List Int) (id : Int) (B : Option Addr) (nb cb : Nat) (hS : HS F w0 w (tabL gt (.slice A n c) last rows ++ L))
    (hn : n < 8) (hrn : rows.length = n) (hid1 : 0 ≤ last ∧ last < id ∧ id ≤ 2147483647) (hl : R.length = 108) (h1 : ∀ v ∈ R, v.oneCell' = true) (h0 : R[0]? = some (.int .i64 id)) (h102 : R[102]? = some (.slice B nb cb)) (hnb : nb = xs.length) (hB : B = none → cb = 0) (hr : Rd w B .u8 xs) (hrs : ∀ a, B = some a → xs ≠ [] → ¬ TF gt (.slice A n c) a.block) (hx : xs.length ≤ 1000000) :
    Calls Tryd.prog 29 #[.pointer (some ⟨gt, 0, none⟩), .agg R.toArray] w fun e w' => e = .returned .nilIface ∧ ∃ (A' : Option Addr) (c' : Nat) (v : Value), HS F w0 w' (tabL gt (.slice A' (n + 1) c') id (rows ++ [R.set 102 v]) ++ L) := by
  refine (add_calls R rows xs id last gt A B n c nb cb w (hS.blk 0 rfl) (hS.oa 1 rfl) (tab_sep hS) hn hrn hid1 hl h1 h0 h102 hnb hB hr hrs hx).mono ?_
  rintro e w' ⟨rfl, A', c', v, hv, hq⟩
  refine ⟨rfl, A', c', v, ?_⟩
  have h2 := HS.call (A := [.blk gt 66 (tabC (.slice A n c) last), .oa 74 108 (.slice A n c) rows]) (L := .rds 5 rows :: L) hS hq (fun k hk => hk.elim (fun h => ⟨_, List.mem_cons_self .., h⟩) (fun h => ⟨_, List.mem_cons_of_mem _ (List.mem_singleton_self _), h⟩))
  have h3 : HS F w0 w' (.os 5 v (ints .u8 xs) :: .rds 5 rows :: .blk gt 66 (tabC (.slice A' (n + 1) c') id) :: .oa 74 108 (.slice A' (n + 1) c') (rows ++ [R.set 102 v]) :: L) := HS.perm h2 (pm4 _ _ _ _ _)
  have h4 := HS.mergeRds h3 (rows ++ [R.set 102 v]) hx (fun r hr => by
    rcases List.mem_append.1 hr with h | h
    · exact .inl h
    · rw [List.mem_singleton] at h
      subst h
      exact .inr ⟨by rw [List.length_set]; exact hl, fun u hu => by
        rcases List.mem_or_eq_of_mem_set hu with h | rfl
        · exact h1 u h
        · exact hv, by rw [List.getElem?_set_self (by omega)]⟩)
  exact h4.perm (pm3 _ _ _ _)
theorem tgetH (ids : List Int) (t : Int) (hS : HS F w0 w (tabL gt (.slice A n c) last rows ++ L)) (hok : RowsOK rows ids n) (hn : n ≤ 8) (ht : ∃ k, k < n ∧ rd ids k = t) :
    Calls Tryd.prog 33 #[.pointer (some ⟨gt, 0, none⟩), .int .i64 t] w fun e w' => ∃ (k : Nat) (R : List Value) (v : Value) (xs : List Int), e = .returned (.tuple #[.agg (R.set 102 v).toArray, .bool true]) ∧ k < n ∧ rd ids k = t ∧ rows[k]? = some R ∧ v.oneCell' = true ∧ xs.length ≤ 1000000 ∧ HS F w0 w' (.os 5 v (ints .u8 xs) :: (tabL gt (.slice A n c) last rows ++ L)) := by
  refine (get_calls rows ids A n c gt t last w (hS.blk 0 rfl) (hS.oa 1 rfl) hok hn ht (tab_rd hS)).mono ?_
  rintro e w' ⟨k, R, v, xs, rfl, h1, h2, h3, h4, h5, hq⟩
  exact ⟨k, R, v, xs, rfl, h1, h2, h3, h4, h5, HS.call (A := []) (L := tabL gt (.slice A n c) last rows ++ L) hS hq (fun _ h => False.elim h)⟩
theorem tsetH (ids : List Int) (t : Int) (R : List Value) (Ab : Option Addr) (nb cb : Nat) (xs : List Int) (hS : HS F w0 w (tabL gt (.slice A n c) last rows ++ L)) (hok : RowsOK rows ids n) (hn : n ≤ 8) (ht : ∃ k, k < n ∧ rd ids k = t) (hr0 : R[0]? = some (.int .i64 t)) (hr1 : R.length = 108) (hr2 : ∀ v ∈ R, v.oneCell' = true)
    (hb1 : R[102]? = some (.slice Ab nb cb)) (hb2 : nb = xs.length) (hb3 : Ab = none → cb = 0) (hb4 : Rd w Ab .u8 xs) (hb5 : xs.length ≤ 1000000) (hb6 : ∀ a, Ab = some a → xs ≠ [] → (Value.slice A n c).ownBlock ≠ some a.block) :
    Calls Tryd.prog 34 #[.pointer (some ⟨gt, 0, none⟩), .agg R.toArray] w fun e w' => ∃ (k : Nat) (v : Value), e = .returned (.bool true) ∧ k < n ∧ rd ids k = t ∧ HS F w0 w' (tabL gt (.slice A n c) last (rows.set k (R.set 102 v)) ++ L) := by
  refine (set_calls rows ids R A n c gt t last w (hS.blk 0 rfl) (hS.oa 1 rfl) (tab_sep hS) hok hn ht hr0 hr1 hr2 Ab nb cb xs hb1 hb2 hb3 hb4 hb5 hb6).mono ?_
  rintro e w' ⟨k, v, rfl, hk, he, hv, hq⟩
  refine ⟨k, v, rfl, hk, he, ?_⟩
  have h1 : HS F w0 w (.oa 74 108 (.slice A n c) rows :: .blk gt 66 (tabC (.slice A n c) last) :: .rds 5 rows :: L) := HS.perm hS (pm3a _ _ _ _)
  have h2 := HS.call (A := [.oa 74 108 (.slice A n c) rows]) (L := .blk gt 66 (tabC (.slice A n c) last) :: .rds 5 rows :: L) h1 hq (fun j hj => ⟨_, List.mem_singleton_self _, hj⟩)
  have h3 : HS F w0 w' (.os 5 v (ints .u8 xs) :: .rds 5 rows :: .blk gt 66 (tabC (.slice A n c) last) :: .oa 74 108 (.slice A n c) (rows.set k (R.set 102 v)) :: L) := HS.perm h2 (pmS _ _ _ _ _)
  have h4 := HS.mergeRds h3 (rows.set k (R.set 102 v)) hb5 (fun r hr => by
    rcases List.mem_or_eq_of_mem_set hr with h | rfl
    · exact .inl h
    · exact .inr ⟨by rw [List.length_set]; exact hr1, fun u hu => by
        rcases List.mem_or_eq_of_mem_set hu with h | rfl
        · exact hr2 u h
        · exact hv, by rw [List.getElem?_set_self (by omega)]⟩)
  exact h4.perm (pm3 _ _ _ _)
theorem tdropH (ids : List Int) (t : Int) (hS : HS F w0 w (tabL gt (.slice A n c) last rows ++ L)) (hok : RowsOK rows ids n) (hn : n ≤ 8) (ht : ∃ k, k < n ∧ rd ids k = t) :
    Calls Tryd.prog 32 #[.pointer (some ⟨gt, 0, none⟩), .int .i64 t] w fun e w' => ∃ k : Nat, e = .returned (.bool true) ∧ k < n ∧ rd ids k = t ∧ HS F w0 w' (tabL gt (.slice A (n - 1) c) last (rows.take k ++ rows.drop (k + 1)) ++ L) := by
  refine (drop_calls rows ids A n c gt t last w (hS.blk 0 rfl) (hS.oa 1 rfl) (tab_sep hS) hok hn ht (fun r hr => (tab_rd hS r hr).2.1)).mono ?_
  rintro e w' ⟨k, rfl, hk, he, hq⟩
  refine ⟨k, rfl, hk, he, ?_⟩
  have h2 := HS.call (A := [.blk gt 66 (tabC (.slice A n c) last), .oa 74 108 (.slice A n c) rows]) (L := .rds 5 rows :: L) hS hq (fun k hk => hk.elim (fun h => ⟨_, List.mem_cons_self .., h⟩) (fun h => ⟨_, List.mem_cons_of_mem _ (List.mem_singleton_self _), h⟩))
  have h3 : HS F w0 w' (.rds 5 rows :: .blk gt 66 (tabC (.slice A (n - 1) c) last) :: .oa 74 108 (.slice A (n - 1) c) (rows.take k ++ rows.drop (k + 1)) :: L) := HS.perm h2 (pm3' _ _ _ _)
  have h4 := HS.subRds h3 (rows.take k ++ rows.drop (k + 1)) (fun r hr => by
    rcases List.mem_append.1 hr with h | h
    · exact List.mem_of_mem_take h
    · exact List.mem_of_mem_drop h)
  exact h4.perm (pm3 _ _ _ _)
theorem tallH (ids : List Int) (hS : HS F w0 w (tabL gt (.slice A n c) last rows ++ L)) (hok : RowsOK rows ids n) (hn : n ≤ 8) :
    Calls Tryd.prog 31 #[.pointer (some ⟨gt, 0, none⟩)] w fun e w' => ∃ (A' : Option Addr) (c' : Nat) (rows' : List (List Value)), e = .returned (.slice A' n c') ∧ RowsOK rows' ids n ∧ HS F w0 w' (.oa 74 108 (.slice A' n c') rows' :: (tabL gt (.slice A n c) last rows ++ L)) := by
  refine (tall_calls rows ids A n c gt last w (hS.blk 0 rfl) (hS.oa 1 rfl) hok hn (tab_rd hS)).mono ?_
  rintro e w' ⟨A', c', rows', rfl, h1, h2, hq⟩
  exact ⟨A', c', rows', rfl, h2, HS.call (A := []) (L := tabL gt (.slice A n c) last rows ++ L) hS hq (fun _ h => False.elim h)⟩
end
/-- The numbers without one. -/
theorem rowsOK_drop {rows : List (List Value)} {ids : List Int} {n k : Nat} (h : RowsOK rows ids n) (hk : k < n) : RowsOK (rows.take k ++ rows.drop (k + 1)) (ids.eraseIdx k) (n - 1) := by
  have hr : ∀ i, rd (ids.eraseIdx k) i = if i < k then rd ids i else rd ids (i + 1) := fun i => by
    unfold rd
    rw [List.getD_eq_getElem?_getD, List.getElem?_eraseIdx]
    split <;> rw [List.getD_eq_getElem?_getD]
  rw [← List.eraseIdx_eq_take_drop_succ]
  refine ⟨by rw [List.length_eraseIdx, if_pos (by rw [h.len]; exact hk), h.len], by rw [List.length_eraseIdx, if_pos (by rw [h.idl]; exact hk), h.idl], fun i r hi => ?_, fun i j hij hj => ?_⟩
  · rw [hr]
    rw [List.getElem?_eraseIdx] at hi
    by_cases hik : i < k
    · rw [if_pos hik] at hi ⊢
      exact h.each i r hi
    · rw [if_neg hik] at hi ⊢
      exact h.each (i + 1) r hi
  · rw [hr, hr]
    by_cases h1 : i < k
    · by_cases h2 : j < k
      · rw [if_pos h1, if_pos h2]; exact h.sorted i j hij (by omega)
      · rw [if_pos h1, if_neg h2]; exact h.sorted i (j + 1) (by omega) (by omega)
    · rw [if_neg h1, if_neg (by omega)]; exact h.sorted (i + 1) (j + 1) (by omega) (by omega)
theorem rowsOK_set {rows : List (List Value)} {ids : List Int} {n k : Nat} {R : List Value} (h : RowsOK rows ids n) (hl : R.length = 108) (h0 : R[0]? = some (.int .i64 (rd ids k))) : RowsOK (rows.set k R) ids n := by
  refine ⟨by rw [List.length_set]; exact h.len, h.idl, fun i r hi => ?_, h.sorted⟩
  by_cases hik : k = i
  · subst hik
    have hlt := (List.getElem?_eq_some_iff.1 hi).1
    rw [List.length_set] at hlt
    rw [List.getElem?_set_self hlt] at hi
    injection hi with hi
    subst hi
    exact ⟨hl, h0⟩
  · rw [List.getElem?_set_ne hik] at hi
    exact h.each i r hi
theorem rowsOK_snoc {rows : List (List Value)} {ids : List Int} {n : Nat} {R : List Value} {id : Int} (h : RowsOK rows ids n) (hl : R.length = 108) (h0 : R[0]? = some (.int .i64 id)) (hlt : ∀ x ∈ ids, x < id) : RowsOK (rows ++ [R]) (ids ++ [id]) (n + 1) := by
  have hr1 : ∀ i, i < n → rd (ids ++ [id]) i = rd ids i := fun i hi => by unfold rd; rw [List.getD_eq_getElem?_getD, List.getElem?_append_left (by rw [h.idl]; exact hi), List.getD_eq_getElem?_getD]
  have hr2 : rd (ids ++ [id]) n = id := by unfold rd; rw [List.getD_eq_getElem?_getD, List.getElem?_append_right (by rw [h.idl]; exact Nat.le_refl _), h.idl]; simp
  refine ⟨by rw [List.length_append, h.len]; rfl, by rw [List.length_append, h.idl]; rfl, fun i r hi => ?_, fun i j hij hj => ?_⟩
  · by_cases hin : i < n
    · rw [List.getElem?_append_left (by rw [h.len]; exact hin)] at hi
      rw [hr1 i hin]
      exact h.each i r hi
    · have hlt := (List.getElem?_eq_some_iff.1 hi).1
      rw [List.length_append, h.len, List.length_singleton] at hlt
      have : i = n := by omega
      subst this
      rw [List.getElem?_append_right (by rw [h.len]; exact Nat.le_refl _), h.len, Nat.sub_self] at hi
      simp only [List.getElem?_cons_zero, Option.some.injEq] at hi
      subst hi
      exact ⟨hl, by rw [hr2]; exact h0⟩
  · by_cases hjn : j < n
    · rw [hr1 i (by omega), hr1 j hjn]; exact h.sorted i j hij hjn
    · have : j = n := by omega
      subst this
      rw [hr2, hr1 i hij]
      have hi : i < ids.length := by rw [h.idl]; exact hij
      have he : rd ids i = ids[i] := by unfold rd; rw [List.getD_eq_getElem?_getD, List.getElem?_eq_getElem hi]; rfl
      rw [he]
      exact hlt _ (List.getElem_mem hi)
end Go.Proofs.YtlikinglgegclaaDoor
/- A table beside other things; its rows' cells as the law TableOrder lays them. -/
namespace Go.Proofs.YtlikinglgegclaaDoor
open Go.RowKit Go.Cour
theorem builtRowN (id m q : Int) (key root blob : List Int) (hk : key.length = 32) (hr : root.length = 32) (hb : blob.length = 32) (t : Int) (A : Option Addr) (n c : Nat) : Tryd.prog.built 74 [(0, .int .i64 t), (1, .int .i64 1), (2, .int .i64 1), (3, .agg (descC id m q key root blob).toArray), (4, .slice A n c)] = some (rowC t 1 1 (descC id m q key root blob) (.slice A n c) [.int .i64 0, .int .i64 0, .int .i64 0, .int .i64 0] (.pointer none)).toArray := by
  match key, hk with
  | [x0, x1, x2, x3, x4, x5, x6, x7, x8, x9, x10, x11, x12, x13, x14, x15, x16, x17, x18, x19, x20, x21, x22, x23, x24, x25, x26, x27, x28, x29, x30, x31], _ =>
    match root, hr with
    | [y0, y1, y2, y3, y4, y5, y6, y7, y8, y9, y10, y11, y12, y13, y14, y15, y16, y17, y18, y19, y20, y21, y22, y23, y24, y25, y26, y27, y28, y29, y30, y31], _ =>
      match blob, hb with
      | [z0, z1, z2, z3, z4, z5, z6, z7, z8, z9, z10, z11, z12, z13, z14, z15, z16, z17, z18, z19, z20, z21, z22, z23, z24, z25, z26, z27, z28, z29, z30, z31], _ => change _ = _; kernel_rfl
theorem undIntsT : Tryd.prog.underlying 49 = some (.slice 3) := by kernel_rfl
theorem infoIntT : (Tryd.prog.info? 3).map (fun i => (i.size, i.bytes)) = some (1, 8) := by kernel_rfl
theorem zeroIntT : (((Tryd.prog.info? 3).bind (·.zero)).map (·.cells.size)) = some 1 := by kernel_rfl
theorem sizeIntT : (Tryd.prog.info? 3).map (·.size) = some 1 := by kernel_rfl
section
variable {F : Nat → Prop} {w0 w : World} {L : List Ent} {gt : Nat} {A : Option Addr} {n c : Nat} {last : Int} {rows : List (List Value)} {x : Ent}
theorem tab_in (hS : HS F w0 w (x :: (tabL gt (.slice A n c) last rows ++ L))) : HS F w0 w (tabL gt (.slice A n c) last rows ++ (x :: L)) := hS.perm List.perm_middle.symm
theorem tab_apart (hS : HS F w0 w (tabL gt (.slice A n c) last rows ++ L)) {e : TypeId} {B : Option Addr} {m d : Nat} {cs : List Value} (i : Nat) (hi : L[i]? = some (.os e (.slice B m d) cs)) : ∀ a, B = some a → ¬ TF gt (.slice A n c) a.block := fun a ha h => by
  have hi3 : (tabL gt (.slice A n c) last rows ++ L)[3 + i]? = some (.os e (.slice B m d) cs) := by
    rw [List.getElem?_append_right (by simp [tabL]), show 3 + i - (tabL gt (.slice A n c) last rows).length = i by simp [tabL]]; exact hi
  obtain ⟨A', c', hv, _, _, _, hb, _⟩ := (show OwnS w e (.slice B m d) cs from hS.mem.get hi3).parts
  injection hv with h1 h2 h3
  subst h1
  have hF : (Ent.os e (.slice B m d) cs).F a.block := hb a ha
  rcases h with h | h
  · exact hS.mem.apart (i := 3 + i) (j := 0) hi3 rfl (by omega) _ hF h
  · exact hS.mem.apart (i := 3 + i) (j := 1) hi3 rfl (by omega) _ hF h
end
end Go.Proofs.YtlikinglgegclaaDoor
