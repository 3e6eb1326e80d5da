import Derived.WalkKit
import Derived.RowKit3
import Derived.Deep.LoopGhost
import Derived.Deep.Draws
import Derived.Laws.Rows
import Derived.Outline
import Derived.WalkSpells
import Derived.WalkLawsBesides
import Derived.Deep.OwnRows
import Derived.Laws.AppendOwnNone
import Derived.Laws.CopyOwn
set_option linter.unusedSimpArgs false
set_option linter.unusedVariables false
open List (getElem_toArray getElem_cons_zero getElem_cons_succ)
/- Blocks of memory that are known whole, and how they stand behind stores, new blocks, appends. -/
namespace Go.Cour
open Go.RowKit
/-- A fact kept from the walk. -/
structure Hd (p : Prop) : Prop where
  mk ::
  out : p
theorem hid {p : Prop} (h : p) : Hd p := ⟨h⟩
/-- Block g of w is a row of cells cs of type t, none of them frozen. -/
def Blk (w : World) (g : Nat) (t : TypeId) (cs : List Value) : Prop := w.heap[g]? = some (.cells cs.toArray t (0, 0))
section
variable {w w1 : World} {g g' : Nat} {t t' : TypeId} {cs cs' : List Value}
theorem Blk.lt (h : Blk w g t cs) : g < w.heap.size := (Array.getElem?_eq_some_iff.1 h).1
theorem Blk.cell (h : Blk w g t cs) (i : Nat) : w.cell? ⟨g, i, none⟩ = cs[i]? := by
  unfold Blk at h
  simp [World.cell?, h]
theorem Blk.frozen (h : Blk w g t cs) (i : Nat) : w.frozen? ⟨g, i, none⟩ = false := by
  unfold Blk at h
  simp [World.frozen?, h]
theorem Blk.set (h : Blk w g t cs) (i : Nat) (v : Value) : Blk (w.setCell ⟨g, i, none⟩ v) g t (cs.set i v) := by
  unfold Blk at *
  rw [heap_setCell_same w g i _ t v h]; simp
theorem Blk.setOther (h : Blk w g t cs) {a : Addr} (ha : g ≠ a.block) (v : Value) : Blk (w.setCell a v) g t cs :=
  (heap_setCell_other w a g v ha).trans h
theorem Blk.alloc (h : Blk w g t cs) (o : Obj) : Blk (w.alloc o) g t cs := (Below.heap_alloc w o g h.lt).trans h
theorem Blk.new (w : World) (t : TypeId) (cs : List Value) : Blk (w.alloc (.cells cs.toArray t)) w.heap.size t cs := heap_alloc_new w _
theorem Blk.drewN (h : Blk w g t cs) (n : Nat) : Blk (w.drewN n) g t cs := h
theorem Blk.drew (h : Blk w g t cs) : Blk w.drew g t cs := h
theorem Blk.below {B : Nat} (h : Blk w g t cs) (hb : Below B w w1) (hg : g < B) : Blk w1 g t cs := (hb.block g hg).trans h
theorem Blk.belowAll (h : Blk w g t cs) (hb : Below w.heap.size w w1) : Blk w1 g t cs := h.below hb h.lt
theorem Blk.grown {row : Option Nat} (h : Blk w g t cs) (hg : w.grownBy w1 row) (hne : some g ≠ row) : Blk w1 g t cs := (hg.block g h.lt hne).trans h
theorem Blk.setRow (h : Blk w g t cs) (cs' : List Value) : Blk (w.setRow g cs'.toArray) g t cs' := setRow_heap w g _ _ t _ h
theorem Blk.setRowOther (h : Blk w g t cs) (hne : g ≠ g') (a : Array Value) : Blk (w.setRow g' a) g t cs := (setRow_other w g' g a hne).trans h
end
theorem below_setRow {B : Nat} {w w1 : World} (h : Below B w w1) {g : Nat} (hg : B ≤ g) (cs : Array Value) : Below B w (w1.setRow g cs) :=
  h.trans ⟨rfl, rfl, rfl, by simp, fun k hk => setRow_other w1 g k cs (by omega)⟩
theorem below_drewN {B : Nat} {w w1 : World} (h : Below B w w1) (n : Nat) : Below B w (w1.drewN n) := ⟨h.os, h.tape, h.output, h.size, h.block⟩
theorem below_then {B : Nat} {w w1 w2 : World} (h : Below B w w1) (hB : B ≤ w1.heap.size) (k : Below w1.heap.size w1 w2) : Below B w w2 :=
  h.trans (k.mono hB)
/-- Numbers of one kind as cells. -/
def ints (k : IntKind) (xs : List Int) : List Value := xs.map (Value.int k)
@[simp] theorem ints_length (k : IntKind) (xs : List Int) : (ints k xs).length = xs.length := by simp [ints]
theorem ints_set (k : IntKind) (xs : List Int) (i : Nat) (x : Int) : (ints k xs).set i (.int k x) = ints k (xs.set i x) := by simp [ints, List.map_set]
/-- Element i of a list of numbers. -/
def rd (xs : List Int) (i : Nat) : Int := xs.getD i 0
theorem ints_get (k : IntKind) (xs : List Int) (i : Nat) (h : i < xs.length) : (ints k xs)[i]? = some (.int k (rd xs i)) := by
  simp [ints, rd, h]
theorem ints_one (k : IntKind) (xs : List Int) : (ints k xs).toArray.all (·.oneCell') = true := by
  simp [ints, Value.oneCell']
theorem ints_append (k : IntKind) (xs ys : List Int) : ints k (xs ++ ys) = ints k xs ++ ints k ys := by simp [ints]
section
variable {w w1 : World} {g : Nat} {t : TypeId} {k : IntKind} {xs : List Int}
theorem Blk.cellI (h : Blk w g t (ints k xs)) (i : Nat) (hi : i < xs.length) : w.cell? ⟨g, i, none⟩ = some (.int k (rd xs i)) := by
  rw [h.cell i, ints_get k xs i hi]
theorem Blk.setI (h : Blk w g t (ints k xs)) (i : Nat) (x : Int) : Blk (w.setCell ⟨g, i, none⟩ (.int k x)) g t (ints k (xs.set i x)) := by
  have := h.set i (.int k x)
  rwa [ints_set] at this
end
/-- A whole array read out of its block. -/
theorem load_blk {P : Program} {ops : Array Oper} {rest : List Oper} {o : Oper} {a : Act} {w : World} {Q : Exit → Act → World → Prop} (hgd : o.guard = none) (ty : TypeId) (x : Operand) (ho : o.op = .load ty x)
    (g : Nat) (hx : a.eval x = .pointer (some ⟨g, 0, none⟩)) (t : TypeId) (cs : List Value) (hg : Blk w g t cs) (n : Nat) (e : TypeId) (hu : P.underlying ty = some (.array n e)) (hl : cs.length = n)
    (hi : (P.info? ty).map (·.size) = some n)
    (h : wpList P ops Q rest (a.put o.dst (.agg cs.toArray)) w) : wpList P ops Q (o :: rest) a w :=
  wpList_load_row hgd ty x ho g hx t cs.toArray (0, 0) _ hg hu rfl (by rw [hi]; simp [hl]) h
/-- A whole array stored into its block. -/
theorem store_blk {P : Program} {ops : Array Oper} {rest : List Oper} {o : Oper} {a : Act} {w : World} {Q : Exit → Act → World → Prop} (hgd : o.guard = none) (ty : TypeId) (x y : Operand) (ho : o.op = .store ty x y)
    (g : Nat) (cs : List Value) (hx : a.eval x = .pointer (some ⟨g, 0, none⟩)) (hy : a.eval y = .agg cs.toArray)
    (t : TypeId) (old : List Value) (hg : Blk w g t old) (n : Nat) (hi : (P.info? ty).map (·.size) = some n) (hl : cs.length = n)
    (hold : old.length = n) (h1 : cs.toArray.all (·.oneCell') = true)
    (h : wpList P ops Q rest (a.put o.dst undef) (w.setRow g cs.toArray)) : wpList P ops Q (o :: rest) a w :=
  wpList_store_row hgd ty x y ho g cs.toArray hx hy t old.toArray hg (by rw [hi]; simp [hl]) (by simp [hl, hold]) h1 h
theorem Blk.new' (w : World) (t : TypeId) (cs : List Value) (n : Nat) (h : w.heap.size = n) : Blk (w.alloc (.cells cs.toArray t)) n t cs := by subst h; exact Blk.new w t cs
theorem results_blk {P : Program} {fn : Func} {p : Tmp} {ty : TypeId} (h : fn.results = #[.cell p ty]) (tmps : Array Value) (w : World) (g : Nat) (t : TypeId) (cs : List Value) (n : Nat) (e : TypeId)
    (hp : tmps.getD p undef = .pointer (some ⟨g, 0, none⟩)) (hg : Blk w g t cs)
    (hu : P.underlying ty = some (.array n e)) (hl : cs.length = n) (hi : (P.info? ty).map (·.size) = some n) :
    (results fn tmps).run P w = .ok (.agg cs.toArray) w :=
  results_cell_row h tmps w g t cs.toArray (0, 0) _ hp hg hu rfl (by rw [hi]; simp [hl])
/-- w' is w but for the cells of block g (and for draws). -/
structure Only (g : Nat) (w w' : World) : Prop where
  os : w'.os = w.os
  tape : w'.tape = w.tape
  output : w'.output = w.output
  size : w'.heap.size = w.heap.size
  block : ∀ k, k ≠ g → w'.heap[k]? = w.heap[k]?
theorem Only.refl (g : Nat) (w : World) : Only g w w := ⟨rfl, rfl, rfl, rfl, fun _ _ => rfl⟩
theorem Only.trans {g : Nat} {a b c : World} (h : Only g a b) (k : Only g b c) : Only g a c :=
  ⟨k.os.trans h.os, k.tape.trans h.tape, k.output.trans h.output, k.size.trans h.size, fun i hi => (k.block i hi).trans (h.block i hi)⟩
theorem Only.setCell {g : Nat} {a w : World} (h : Only g a w) (i : Nat) (v : Value) : Only g a (w.setCell ⟨g, i, none⟩ v) :=
  h.trans ⟨rfl, rfl, rfl, by simp [World.setCell], fun k hk => Below.heap_setCell _ _ _ _ hk⟩
theorem Only.drew {g : Nat} {a w : World} (h : Only g a w) : Only g a w.drew := ⟨h.os, h.tape, h.output, h.size, h.block⟩
theorem Only.drewN {g : Nat} {a w : World} (h : Only g a w) (n : Nat) : Only g a (w.drewN n) := ⟨h.os, h.tape, h.output, h.size, h.block⟩
theorem Only.setRow {g : Nat} {a w : World} (h : Only g a w) (cs : Array Value) : Only g a (w.setRow g cs) :=
  h.trans ⟨rfl, rfl, rfl, by simp, fun k hk => setRow_other w g k cs hk⟩
theorem Blk.only {w w1 : World} {g g' : Nat} {t : TypeId} {cs : List Value} (h : Blk w g t cs) (hk : Only g' w w1) (hne : g ≠ g') : Blk w1 g t cs := (hk.block g hne).trans h
theorem Only.below {B g : Nat} {a w w1 : World} (h : Below B a w) (hk : Only g w w1) (hg : B ≤ g) : Below B a w1 :=
  h.trans ⟨hk.os, hk.tape, hk.output, by rw [hk.size]; exact Nat.le_refl _, fun k hlt => hk.block k (by omega)⟩
/-- The slice that begins at A reads as the numbers xs. -/
def Rd (w : World) (A : Option Addr) (k : IntKind) (xs : List Int) : Prop :=
  xs = [] ∨ ∃ g o, A = some ⟨g, o, none⟩ ∧ ∀ i, i < xs.length → w.cell? ⟨g, o + i, none⟩ = some (.int k (rd xs i))
theorem lt_of_cell {w : World} {g o : Nat} {v : Value} (h : w.cell? ⟨g, o, none⟩ = some v) : g < w.heap.size := block_lt_of_cell h
theorem Rd.below {w w1 : World} {A : Option Addr} {k : IntKind} {xs : List Int} (h : Rd w A k xs) (hb : Below w.heap.size w w1) : Rd w1 A k xs := by
  rcases h with h | ⟨g, o, rfl, h⟩
  · exact .inl h
  · exact .inr ⟨g, o, rfl, fun i hi => (hb.cell (p := ⟨g, o + i, none⟩) (lt_of_cell (h i hi))).trans (h i hi)⟩
theorem Rd.drewN {w : World} {A : Option Addr} {k : IntKind} {xs : List Int} (h : Rd w A k xs) (n : Nat) : Rd (w.drewN n) A k xs := h
theorem Rd.drew {w : World} {A : Option Addr} {k : IntKind} {xs : List Int} (h : Rd w A k xs) : Rd w.drew A k xs := h
theorem Rd.alloc {w : World} {A : Option Addr} {k : IntKind} {xs : List Int} (h : Rd w A k xs) (ob : Obj) : Rd (w.alloc ob) A k xs := h.below ((Below.refl _ _).alloc (Nat.le_refl _) _)
theorem Rd.only {w w1 : World} {A : Option Addr} {k : IntKind} {xs : List Int} {g : Nat} (h : Rd w A k xs) (hk : Only g w w1) (hne : ∀ ad, A = some ad → xs ≠ [] → ad.block ≠ g) : Rd w1 A k xs := by
  rcases h with h | ⟨g', o, rfl, h⟩
  · exact .inl h
  · by_cases he : xs = []
    · exact .inl he
    · have hb := hk.block g' (hne _ rfl he)
      exact .inr ⟨g', o, rfl, fun i hi => by rw [← h i hi]; simp only [World.cell?, hb]⟩
theorem Rd.nil (w : World) (A : Option Addr) (k : IntKind) : Rd w A k [] := .inl rfl
theorem Rd.ofBlk {w : World} {g : Nat} {t : TypeId} {k : IntKind} {xs : List Int} (h : Blk w g t (ints k xs)) : Rd w (some ⟨g, 0, none⟩) k xs :=
  .inr ⟨g, 0, rfl, fun i hi => by rw [Nat.zero_add]; exact h.cellI i hi⟩
theorem rd_take (xs : List Int) (n i : Nat) (h : i < n) : rd (xs.take n) i = rd xs i := by
  unfold rd; rw [List.getD_eq_getElem?_getD, List.getD_eq_getElem?_getD, List.getElem?_take, if_pos h]
theorem rd_drop (xs : List Int) (n i : Nat) : rd (xs.drop n) i = rd xs (n + i) := by
  unfold rd; rw [List.getD_eq_getElem?_getD, List.getD_eq_getElem?_getD, List.getElem?_drop]
theorem Rd.take {w : World} {A : Option Addr} {k : IntKind} {xs : List Int} (h : Rd w A k xs) (n : Nat) : Rd w A k (xs.take n) := by
  rcases h with h | ⟨g, o, rfl, h⟩
  · exact .inl (by simp [h])
  · exact .inr ⟨g, o, rfl, fun i hi => by
      have hi' := List.length_take_le n xs
      have : i < n := by have := List.length_take_le' n xs; rw [List.length_take] at hi; omega
      rw [rd_take _ _ _ this]; exact h i (by rw [List.length_take] at hi; omega)⟩
theorem Rd.cellAt {w : World} {g o : Nat} {k : IntKind} {xs : List Int} (h : Rd w (some ⟨g, o, none⟩) k xs) (i : Nat) (hi : i < xs.length) : w.cell? ⟨g, o + i, none⟩ = some (.int k (rd xs i)) := by
  rcases h with h | ⟨g', o', he, h⟩
  · subst h; simp at hi
  · injection he with he
    injection he with h1 h2
    subst h1 h2
    exact h i hi
theorem Rd.at {w : World} {A : Option Addr} {k : IntKind} {xs : List Int} (h : Rd w A k xs) (hne : 0 < xs.length) : ∃ g o, A = some ⟨g, o, none⟩ := by
  rcases h with h | ⟨g, o, he, _⟩
  · subst h; simp at hne
  · exact ⟨g, o, he⟩
/-- The slice value v, of the numbers xs, is the call's own: its block lies from base on. -/
def Own (w : World) (base : Nat) (e : TypeId) (k : IntKind) (v : Value) (xs : List Int) : Prop := w.ownsRow base e 1 v xs.length (ints k xs)
section
variable {w w1 : World} {base : Nat} {e : TypeId} {k : IntKind} {v : Value} {xs : List Int}
theorem Own.nil (w : World) (base : Nat) (e : TypeId) (k : IntKind) : Own w base e k (.slice none 0 0) [] := ⟨by simp [ints], .inl ⟨rfl, rfl⟩⟩
theorem Own.ofBlk {g : Nat} (h : Blk w g e (ints k xs)) (hb : base ≤ g) (hm : xs.length ≤ maxLen) : Own w base e k (.slice (some ⟨g, 0, none⟩) xs.length xs.length) xs :=
  ⟨by simp, .inr ⟨g, xs.length, (ints k xs).toArray, rfl, hb, h, Nat.le_refl _, hm, by simp, by simp [List.take_of_length_le]⟩⟩
theorem Own.slice (h : Own w base e k v xs) : ∃ A c, v = .slice A xs.length c ∧ xs.length ≤ c ∧ c ≤ maxLen ∧ Rd w A k xs := by
  obtain ⟨h1, ⟨rfl, h2⟩ | ⟨g, cap, cur, rfl, hg, hh, hn, hm, hs, ht⟩⟩ := h
  · exact ⟨none, 0, by rw [h2], by omega, by unfold maxLen; omega, .inl (List.eq_nil_of_length_eq_zero h2)⟩
  · refine ⟨_, cap, rfl, hn, hm, .inr ⟨g, 0, rfl, fun i hi => ?_⟩⟩
    have hc : w.cell? ⟨g, i, none⟩ = cur[i]? := cell_of_row w g i cur e (0, 0) hh
    rw [Nat.zero_add, hc]
    have : (ints k xs)[i]? = cur[i]? := by
      rw [← ht, Nat.mul_one, List.getElem?_take, if_pos hi]; simp
    rw [← this, ints_get k xs i hi]
theorem Own.kept {row : Option Nat} (h : Own w base e k v xs) (hg : w.grownBy w1 row) (hne : v.ownBlock = none ∨ v.ownBlock ≠ row) : Own w1 base e k v xs := by
  obtain ⟨h1, h2⟩ := h
  refine ⟨h1, ?_⟩
  rcases h2 with h2 | ⟨g, cap, cur, rfl, hb, hh, r⟩
  · exact .inl h2
  · refine .inr ⟨g, cap, cur, rfl, hb, ?_, r⟩
    rw [hg.block g (Array.getElem?_eq_some_iff.1 hh).1 ?_]
    · exact hh
    · rcases hne with hne | hne
      · simp [Value.ownBlock] at hne
      · simpa [Value.ownBlock] using hne
theorem Own.below (h : Own w base e k v xs) (hb : Below w.heap.size w w1) : Own w1 base e k v xs := by
  obtain ⟨h1, h2⟩ := h
  refine ⟨h1, ?_⟩
  rcases h2 with h2 | ⟨g, cap, cur, rfl, hg, hh, r⟩
  · exact .inl h2
  · exact .inr ⟨g, cap, cur, rfl, hg, (hb.block g (Array.getElem?_eq_some_iff.1 hh).1).trans hh, r⟩
theorem Own.alloc (h : Own w base e k v xs) (o : Obj) : Own (w.alloc o) base e k v xs := h.below ((Below.refl _ _).alloc (Nat.le_refl _) _)
theorem Own.drewN (h : Own w base e k v xs) (n : Nat) : Own (w.drewN n) base e k v xs := h
theorem Own.drew (h : Own w base e k v xs) : Own w.drew base e k v xs := h
theorem Own.lower {b : Nat} (h : Own w base e k v xs) (hb : b ≤ base) : Own w b e k v xs := by
  obtain ⟨h1, h2⟩ := h
  refine ⟨h1, ?_⟩
  rcases h2 with h2 | ⟨g, cap, cur, hv, hg, r⟩
  · exact .inl h2
  · exact .inr ⟨g, cap, cur, hv, Nat.le_trans hb hg, r⟩
theorem Own.base_le (h : Own w base e k v xs) (j : Nat) (hj : v.ownBlock = some j) : base ≤ j := by
  rcases h.2 with ⟨rfl, _⟩ | ⟨g, cap, cur, rfl, hg, r⟩
  · simp [Value.ownBlock] at hj
  · have : g = j := by simpa [Value.ownBlock] using hj
    omega
theorem Own.setOther (h : Own w base e k v xs) {a : Addr} (ha : some a.block ≠ v.ownBlock) (u : Value) : Own (w.setCell a u) base e k v xs := by
  obtain ⟨h1, h2⟩ := h
  refine ⟨h1, ?_⟩
  rcases h2 with h2 | ⟨g, cap, cur, rfl, hg, hh, r⟩
  · exact .inl h2
  · exact .inr ⟨g, cap, cur, rfl, hg, (Below.heap_setCell w a u g (fun he => ha (by simp [Value.ownBlock, he]))).trans hh, r⟩
theorem Own.ne_blk {g : Nat} {t : TypeId} {cs : List Value} (h : Own w base e k v xs) (hg : Blk w g t cs) (hne : e ≠ t) : v.ownBlock ≠ some g := by
  rcases h.2 with ⟨rfl, _⟩ | ⟨g', cap, cur, rfl, _, hh, r⟩
  · simp [Value.ownBlock]
  · intro he
    have : g' = g := by simpa [Value.ownBlock] using he
    subst this
    unfold Blk at hg
    rw [hh] at hg
    injection hg with hg
    injection hg with _ hg
    exact hne hg
theorem Own.ne_lt {g : Nat} (h : Own w base e k v xs) (hg : g < base) : v.ownBlock ≠ some g := by
  intro he
  have := h.base_le g he
  omega
end
theorem add_lit (g o j : Nat) : (⟨g, o, none⟩ : Addr).add j = ⟨g, o + j, none⟩ := by unfold Addr.add; split <;> simp_all
/-- append(s, ys...): s the call's own, ys whatever reads as numbers. -/
theorem append_list {P : Program} {w : World} {ops : Array Oper} {rest : List Oper} {o : Oper} {a : Act} {Q : Exit → Act → World → Prop} (hgd : o.guard = none) (s x : Operand) (t : TypeId)
    (ho : o.op = .call { callee := .builtin .append, args := #[s, x], argTypes := #[t, t] })
    (base : Nat) (e : TypeId) (k : IntKind) (bytes : Nat) (ht : P.underlying t = some (.slice e)) (hi : (P.info? e).map (fun i => (i.zero, i.size, i.bytes)) = some (some (.int k 0), 1, bytes))
    (v : Value) (xs : List Int) (hs : a.eval s = v) (hown : Own w base e k v xs)
    (A : Option Addr) (m c : Nat) (ys : List Int) (hx : a.eval x = .slice A m c) (hm : m = ys.length) (hA : A = none → c = 0) (hr : Rd w A k ys)
    (hbytes : (xs.length + ys.length) * bytes ≤ 140737488355328) (h63 : xs.length + ys.length ≤ 140737488355328) (hbase : base ≤ w.heap.size)
    (h : ∀ v' w', Own w' base e k v' (xs ++ ys) → w.grownBy w' v.ownBlock → wpList P ops Q rest (a.put o.dst v') w') : wpList P ops Q (o :: rest) a w := by
  obtain ⟨i, hi0, hz0, hz1, hz2⟩ := info_parts hi
  subst hm
  have h1 : ∀ u ∈ ints k ys, u.oneCell' = true := by
    intro u hu
    obtain ⟨y, _, rfl⟩ := List.mem_map.1 hu
    rfl
  cases A with
  | none =>
    have hy : ys = [] := by
      rcases hr with hr | ⟨g, o, he, _⟩
      · exact hr
      · cases he
    subst hy
    obtain rfl := hA rfl
    refine wpList_append_own_none hgd s x t ho base e i 1 ht hi0 v xs.length (ints k xs) hs hown hx ?_
    refine h v w ?_ (World.grownBy.refl _ _)
    rw [List.append_nil]
    exact hown
  | some ad =>
    refine wpList_append_own _ hgd s x t ho base e i (.int k 0) 1 bytes ht hi0 hz0 hz1 hz2 rfl (by decide) v xs.length (ints k xs) hs hown ad ys.length c (ints k ys) hx (by simp) ?_ h1 (by unfold maxLen; omega) hbytes hbase ?_
    · intro j u hj
      rcases hr with hr | ⟨g, o', he, hr⟩
      · subst hr; simp [ints] at hj
      · injection he with he
        subst he
        have hjl : j < ys.length := by
          have := (List.getElem?_eq_some_iff.1 hj).1
          simpa using this
        rw [ints_get k ys j hjl] at hj
        injection hj with hj
        subst hj
        rw [add_lit]
        exact hr j hjl
    · intro v' w' ho' hg' _
      refine h v' w' ?_ hg'
      unfold Own
      rw [List.length_append, ints_append]
      exact ho'
/-- append(s, y): s the call's own; y lies in a new block of its own. -/
theorem append_one {P : Program} {w : World} {ops : Array Oper} {rest : List Oper} {o : Oper} {a : Act} {Q : Exit → Act → World → Prop} (hgd : o.guard = none) (s x : Operand) (t : TypeId)
    (ho : o.op = .call { callee := .builtin .append, args := #[s, x], argTypes := #[t, t] })
    (base : Nat) (e : TypeId) (k : IntKind) (bytes : Nat) (ht : P.underlying t = some (.slice e)) (hi : (P.info? e).map (fun i => (i.zero, i.size, i.bytes)) = some (some (.int k 0), 1, bytes))
    (v : Value) (xs : List Int) (hs : a.eval s = v) (hown : Own w base e k v xs)
    (y : Int) (hx : a.eval x = .slice (some ⟨w.heap.size, 0, none⟩) 1 1)
    (hbytes : (xs.length + 1) * bytes ≤ 140737488355328) (h63 : xs.length + 1 ≤ 140737488355328) (hbase : base ≤ w.heap.size)
    (h : ∀ v' w', Own w' base e k v' (xs ++ [y]) → w.grownBy w' v.ownBlock → wpList P ops Q rest (a.put o.dst v') w') :
    wpList P ops Q (o :: rest) a (w.alloc (.cells #[.int k y] e)) := by
  refine append_list hgd s x t ho base e k bytes ht hi v xs hs (hown.alloc _) (some ⟨w.heap.size, 0, none⟩) 1 1 [y] hx rfl (by simp) ?_ (by simpa using hbytes) (by simpa using h63) (by simp; omega) ?_
  · exact Rd.ofBlk (t := e) (Blk.new w e (ints k [y]))
  · intro v' w' h1 h2
    exact h v' w' h1 ⟨h2.os, h2.tape, h2.output, Nat.le_trans (by simp) h2.size, fun j hj hne => (h2.block j (by simp; omega) hne).trans (Below.heap_alloc w _ j hj)⟩
theorem Own.grown_below {B base : Nat} {w0 w w1 : World} {e : TypeId} {k : IntKind} {v : Value} {xs : List Int} (h : Own w base e k v xs) (hb : Below B w0 w) (hg : w.grownBy w1 v.ownBlock) (h1 : B ≤ w.heap.size) (h2 : B ≤ base) : Below B w0 w1 :=
  hb.grown hg h1 (fun j hj => Nat.le_trans h2 (h.base_le j hj))
theorem rd_set' (xs : List Int) (i j : Nat) (x : Int) : rd (xs.set i x) j = if i = j ∧ j < xs.length then x else rd xs j := by
  unfold rd
  by_cases h : i = j
  · subst h
    by_cases hl : i < xs.length <;> simp [List.getElem?_set, hl]
  · simp [List.getElem?_set_ne h, h]
theorem Rd.drop {w : World} {A : Option Addr} {k : IntKind} {xs : List Int} (h : Rd w A k xs) (n c : Nat) (hn : n ≤ xs.length) (hc : xs.length ≤ c) : Rd w (if c = n then A else A.map (·.add n)) k (xs.drop n) := by
  by_cases he : n = xs.length
  · exact .inl (by rw [he]; simp)
  · rw [if_neg (by omega)]
    rcases h with h | ⟨g, o, rfl, h⟩
    · subst h; exact .inl (by simp)
    · refine .inr ⟨g, o + n, by simp [add_lit], fun i hi => ?_⟩
      rw [rd_drop, Nat.add_assoc]
      exact h (n + i) (by rw [List.length_drop] at hi; omega)
theorem max2_int (k k' : IntKind) (x y : Int) : Builtin.max2 (.int k x) (.int k' y) = pure (.int k (if x < y then y else x)) := by simp only [Builtin.max2, gt_iff_lt]
theorem min2_int (k k' : IntKind) (x y : Int) : Builtin.min2 (.int k x) (.int k' y) = pure (.int k (if y < x then y else x)) := by simp only [Builtin.min2]
/-- A byte list holds bytes. -/
def bytesOk (xs : List Int) : Prop := ∀ i, 0 ≤ rd xs i ∧ rd xs i < 256
theorem made_ints (n : Nat) : madeCells #[.int .u8 0] n = (ints .u8 (List.replicate n 0)).toArray := by
  apply Array.toList_inj.1
  rw [toList_madeCells_one]; simp [ints]
/-- Two results, each in a slot. -/
theorem results_tmp2 {P : Program} {fn : Func} {p q : Tmp} (h : fn.results = #[.tmp p, .tmp q]) (tmps : Array Value) (w : World) {u v : Value} (hp : tmps.getD p undef = u) (hq : tmps.getD q undef = v) :
    (results fn tmps).run P w = .ok (.tuple #[u, v]) w := by
  have hp' : tmps[p]?.getD undef = u := by simpa using hp
  have hq' : tmps[q]?.getD undef = v := by simpa using hq
  simp [results, h, hp', hq']
end Go.Cour
/- Bytes' or and xor. -/
namespace Go.Proofs.YtlikinglgegclaaDoor
open Go.RowKit Go.Cour
theorem bits_xor_u8_nat (a b : Nat) (ha : a < 256) (hb : b < 256) : bits .xor .u8 (a : Int) (b : Int) = ((a ^^^ b : Nat) : Int) := by
  have hx : a ^^^ b < 2 ^ 8 := Nat.xor_lt_two_pow (by omega) (by omega)
  have h1 : (BitVec.ofInt 8 (a : Int)).toNat = a := by
    rw [BitVec.ofInt_natCast, BitVec.toNat_ofNat]; exact Nat.mod_eq_of_lt (by omega)
  have h2 : (BitVec.ofInt 8 (b : Int)).toNat = b := by
    rw [BitVec.ofInt_natCast, BitVec.toNat_ofNat]; exact Nat.mod_eq_of_lt (by omega)
  show IntKind.u8.wrap ((BitVec.ofInt 8 (a : Int) ^^^ BitVec.ofInt 8 (b : Int)).toNat : Int) = _
  rw [BitVec.toNat_xor, h1, h2, IntKind.wrap_u8]
  omega
theorem xor_u8_bound (x y : Int) (hx : 0 ≤ x ∧ x < 256) (hy : 0 ≤ y ∧ y < 256) : 0 ≤ bits .xor .u8 x y ∧ bits .xor .u8 x y < 256 := by
  obtain ⟨a, rfl⟩ : ∃ a : Nat, x = (a : Int) := ⟨x.toNat, by omega⟩
  obtain ⟨b, rfl⟩ : ∃ b : Nat, y = (b : Int) := ⟨y.toNat, by omega⟩
  rw [bits_xor_u8_nat a b (by omega) (by omega)]
  have : a ^^^ b < 2 ^ 8 := Nat.xor_lt_two_pow (by omega) (by omega)
  omega
end Go.Proofs.YtlikinglgegclaaDoor
