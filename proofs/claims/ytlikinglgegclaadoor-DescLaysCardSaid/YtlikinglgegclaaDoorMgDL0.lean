import Derived.WalkKit
import Derived.RowKit3
import Derived.Deep.LoopGhost
import Derived.Deep.Draws
import Derived.Laws.Rows
import Derived.Outline
import Derived.WalkSpells
import Derived.WalkLawsBesides
import Derived.Deep.OwnRows
import Derived.Laws.AppendOwnNone
import Derived.Laws.CopyOwn
import Derived.Great.BuildSlice
import Derived.Laws.StructEq
import Derived.Laws.Cells
import Derived.LaidEql
import Derived.Test.YtlikinglgegclaaDoorProg
import Derived.Test.YtlikinglgegclaaDoorRows
import Derived.ProofKit
import Derived.LaidMore
import Derived.LaidLaws
import Derived.OpenShut
import Derived.StillTail
import Derived.Tactics
import Derived.Orders
import Derived.KernelRfl
set_option linter.unusedSimpArgs false
set_option linter.unusedVariables false
/- Blocks of memory that are known whole, and how they stand behind stores, new blocks, appends. -/
namespace Go.Cour
open Go.RowKit
/-- A fact kept from the walk. -/
structure Hd (p : Prop) : Prop where
  mk ::
  out : p
theorem hid {p : Prop} (h : p) : Hd p := ⟨h⟩

/-- Block g of w is a row of cells cs of type t, none of them frozen. -/
def Blk (w : World) (g : Nat) (t : TypeId) (cs : List Value) : Prop := w.heap[g]? = some (.cells cs.toArray t (0, 0))

section
variable {w w1 : World} {g g' : Nat} {t t' : TypeId} {cs cs' : List Value}
theorem Blk.lt (h : Blk w g t cs) : g < w.heap.size := (Array.getElem?_eq_some_iff.1 h).1
theorem Blk.cell (h : Blk w g t cs) (i : Nat) : w.cell? ⟨g, i, none⟩ = cs[i]? := by
  unfold Blk at h
  simp [World.cell?, h]
theorem Blk.cellD (h : Blk w g t cs) (i : Nat) (hi : i < cs.length) (d : Value) : w.cell? ⟨g, i, none⟩ = some (cs.getD i d) := by
  rw [h.cell i, List.getElem?_eq_getElem hi]; simp [List.getD, hi]
theorem Blk.frozen (h : Blk w g t cs) (i : Nat) : w.frozen? ⟨g, i, none⟩ = false := by
  unfold Blk at h
  simp [World.frozen?, h]
theorem Blk.set (h : Blk w g t cs) (i : Nat) (v : Value) : Blk (w.setCell ⟨g, i, none⟩ v) g t (cs.set i v) := by
  unfold Blk at *
  rw [heap_setCell_same w g i _ t v h]; simp
theorem Blk.setOther (h : Blk w g t cs) {a : Addr} (ha : g ≠ a.block) (v : Value) : Blk (w.setCell a v) g t cs :=
  (heap_setCell_other w a g v ha).trans h
theorem Blk.alloc (h : Blk w g t cs) (o : Obj) : Blk (w.alloc o) g t cs := (Below.heap_alloc w o g h.lt).trans h
theorem Blk.new (w : World) (t : TypeId) (cs : List Value) : Blk (w.alloc (.cells cs.toArray t)) w.heap.size t cs := heap_alloc_new w _
theorem Blk.drewN (h : Blk w g t cs) (n : Nat) : Blk (w.drewN n) g t cs := h
theorem Blk.drew (h : Blk w g t cs) : Blk w.drew g t cs := h
theorem Blk.below {B : Nat} (h : Blk w g t cs) (hb : Below B w w1) (hg : g < B) : Blk w1 g t cs := (hb.block g hg).trans h
theorem Blk.belowAll (h : Blk w g t cs) (hb : Below w.heap.size w w1) : Blk w1 g t cs := h.below hb h.lt
theorem Blk.grown {row : Option Nat} (h : Blk w g t cs) (hg : w.grownBy w1 row) (hne : some g ≠ row) : Blk w1 g t cs := (hg.block g h.lt hne).trans h
theorem Blk.setRow (h : Blk w g t cs) (cs' : List Value) : Blk (w.setRow g cs'.toArray) g t cs' := setRow_heap w g _ _ t _ h
theorem Blk.setRowOther (h : Blk w g t cs) (hne : g ≠ g') (a : Array Value) : Blk (w.setRow g' a) g t cs := (setRow_other w g' g a hne).trans h
theorem Blk.ne (h : Blk w g t cs) (h' : Blk w g' t' cs') (hne : t ≠ t') : g ≠ g' := by
  rintro rfl
  unfold Blk at h h'
  rw [h] at h'
  injection h' with h'
  injection h' with _ h'
  exact hne h'
end

theorem below_setRow {B : Nat} {w w1 : World} (h : Below B w w1) {g : Nat} (hg : B ≤ g) (cs : Array Value) : Below B w (w1.setRow g cs) :=
  h.trans ⟨rfl, rfl, rfl, by simp, fun k hk => setRow_other w1 g k cs (by omega)⟩
theorem below_drewN {B : Nat} {w w1 : World} (h : Below B w w1) (n : Nat) : Below B w (w1.drewN n) := ⟨h.os, h.tape, h.output, h.size, h.block⟩
theorem below_then {B : Nat} {w w1 w2 : World} (h : Below B w w1) (hB : B ≤ w1.heap.size) (k : Below w1.heap.size w1 w2) : Below B w w2 :=
  h.trans (k.mono hB)

/-- Numbers of one kind as cells. -/
def ints (k : IntKind) (xs : List Int) : List Value := xs.map (Value.int k)
@[simp] theorem ints_length (k : IntKind) (xs : List Int) : (ints k xs).length = xs.length := by simp [ints]
theorem ints_set (k : IntKind) (xs : List Int) (i : Nat) (x : Int) : (ints k xs).set i (.int k x) = ints k (xs.set i x) := by simp [ints, List.map_set]
/-- Element i of a list of numbers. -/
def rd (xs : List Int) (i : Nat) : Int := xs.getD i 0
theorem ints_get (k : IntKind) (xs : List Int) (i : Nat) (h : i < xs.length) : (ints k xs)[i]? = some (.int k (rd xs i)) := by
  simp [ints, rd, h]
theorem ints_one (k : IntKind) (xs : List Int) : (ints k xs).toArray.all (·.oneCell') = true := by
  simp [ints, Value.oneCell']
theorem ints_append (k : IntKind) (xs ys : List Int) : ints k (xs ++ ys) = ints k xs ++ ints k ys := by simp [ints]

/-- A block of numbers. -/
abbrev BlkI (w : World) (g : Nat) (t : TypeId) (k : IntKind) (xs : List Int) : Prop := Blk w g t (ints k xs)
section
variable {w w1 : World} {g : Nat} {t : TypeId} {k : IntKind} {xs : List Int}
theorem Blk.cellI (h : Blk w g t (ints k xs)) (i : Nat) (hi : i < xs.length) : w.cell? ⟨g, i, none⟩ = some (.int k (rd xs i)) := by
  rw [h.cell i, ints_get k xs i hi]
theorem Blk.setI (h : Blk w g t (ints k xs)) (i : Nat) (x : Int) : Blk (w.setCell ⟨g, i, none⟩ (.int k x)) g t (ints k (xs.set i x)) := by
  have := h.set i (.int k x)
  rwa [ints_set] at this
end
/-- A whole array read out of its block. -/
theorem load_blk {P : Program} {ops : Array Oper} {rest : List Oper} {o : Oper} {a : Act} {w : World} {Q : Exit → Act → World → Prop} (hgd : o.guard = none) (ty : TypeId) (x : Operand) (ho : o.op = .load ty x)
    (g : Nat) (hx : a.eval x = .pointer (some ⟨g, 0, none⟩)) (t : TypeId) (cs : List Value) (hg : Blk w g t cs) (n : Nat) (e : TypeId) (hu : P.underlying ty = some (.array n e)) (hl : cs.length = n)
    (hi : (P.info? ty).map (·.size) = some n)
    (h : wpList P ops Q rest (a.put o.dst (.agg cs.toArray)) w) : wpList P ops Q (o :: rest) a w :=
  wpList_load_row hgd ty x ho g hx t cs.toArray (0, 0) _ hg hu rfl (by rw [hi]; simp [hl]) h
/-- A whole array stored into its block. -/
theorem store_blk {P : Program} {ops : Array Oper} {rest : List Oper} {o : Oper} {a : Act} {w : World} {Q : Exit → Act → World → Prop} (hgd : o.guard = none) (ty : TypeId) (x y : Operand) (ho : o.op = .store ty x y)
    (g : Nat) (cs : List Value) (hx : a.eval x = .pointer (some ⟨g, 0, none⟩)) (hy : a.eval y = .agg cs.toArray)
    (t : TypeId) (old : List Value) (hg : Blk w g t old) (n : Nat) (hi : (P.info? ty).map (·.size) = some n) (hl : cs.length = n)
    (hold : old.length = n) (h1 : cs.toArray.all (·.oneCell') = true)
    (h : wpList P ops Q rest (a.put o.dst undef) (w.setRow g cs.toArray)) : wpList P ops Q (o :: rest) a w :=
  wpList_store_row hgd ty x y ho g cs.toArray hx hy t old.toArray hg (by rw [hi]; simp [hl]) (by simp [hl, hold]) h1 h
theorem Blk.new' (w : World) (t : TypeId) (cs : List Value) (n : Nat) (h : w.heap.size = n) : Blk (w.alloc (.cells cs.toArray t)) n t cs := by subst h; exact Blk.new w t cs
theorem results_blk {P : Program} {fn : Func} {p : Tmp} {ty : TypeId} (h : fn.results = #[.cell p ty]) (tmps : Array Value) (w : World) (g : Nat) (t : TypeId) (cs : List Value) (n : Nat) (e : TypeId)
    (hp : tmps.getD p undef = .pointer (some ⟨g, 0, none⟩)) (hg : Blk w g t cs)
    (hu : P.underlying ty = some (.array n e)) (hl : cs.length = n) (hi : (P.info? ty).map (·.size) = some n) :
    (results fn tmps).run P w = .ok (.agg cs.toArray) w :=
  results_cell_row h tmps w g t cs.toArray (0, 0) _ hp hg hu rfl (by rw [hi]; simp [hl])
/-- w' is w but for the cells of block g (and for draws). -/
structure Only (g : Nat) (w w' : World) : Prop where
  os : w'.os = w.os
  tape : w'.tape = w.tape
  output : w'.output = w.output
  size : w'.heap.size = w.heap.size
  block : ∀ k, k ≠ g → w'.heap[k]? = w.heap[k]?
theorem Only.refl (g : Nat) (w : World) : Only g w w := ⟨rfl, rfl, rfl, rfl, fun _ _ => rfl⟩
theorem Only.trans {g : Nat} {a b c : World} (h : Only g a b) (k : Only g b c) : Only g a c :=
  ⟨k.os.trans h.os, k.tape.trans h.tape, k.output.trans h.output, k.size.trans h.size, fun i hi => (k.block i hi).trans (h.block i hi)⟩
theorem Only.setCell {g : Nat} {a w : World} (h : Only g a w) (i : Nat) (v : Value) : Only g a (w.setCell ⟨g, i, none⟩ v) :=
  h.trans ⟨rfl, rfl, rfl, by simp [World.setCell], fun k hk => Below.heap_setCell _ _ _ _ hk⟩
theorem Only.drew {g : Nat} {a w : World} (h : Only g a w) : Only g a w.drew := ⟨h.os, h.tape, h.output, h.size, h.block⟩
theorem Only.drewN {g : Nat} {a w : World} (h : Only g a w) (n : Nat) : Only g a (w.drewN n) := ⟨h.os, h.tape, h.output, h.size, h.block⟩
theorem Only.setRow {g : Nat} {a w : World} (h : Only g a w) (cs : Array Value) : Only g a (w.setRow g cs) :=
  h.trans ⟨rfl, rfl, rfl, by simp, fun k hk => setRow_other w g k cs hk⟩
theorem Blk.only {w w1 : World} {g g' : Nat} {t : TypeId} {cs : List Value} (h : Blk w g t cs) (hk : Only g' w w1) (hne : g ≠ g') : Blk w1 g t cs := (hk.block g hne).trans h
theorem Only.below {B g : Nat} {a w w1 : World} (h : Below B a w) (hk : Only g w w1) (hg : B ≤ g) : Below B a w1 :=
  h.trans ⟨hk.os, hk.tape, hk.output, by rw [hk.size]; exact Nat.le_refl _, fun k hlt => hk.block k (by omega)⟩

/-- The slice that begins at A reads as the numbers xs. -/
def Rd (w : World) (A : Option Addr) (k : IntKind) (xs : List Int) : Prop :=
  xs = [] ∨ ∃ g o, A = some ⟨g, o, none⟩ ∧ ∀ i, i < xs.length → w.cell? ⟨g, o + i, none⟩ = some (.int k (rd xs i))
theorem lt_of_cell {w : World} {g o : Nat} {v : Value} (h : w.cell? ⟨g, o, none⟩ = some v) : g < w.heap.size := block_lt_of_cell h
theorem Rd.below {w w1 : World} {A : Option Addr} {k : IntKind} {xs : List Int} (h : Rd w A k xs) (hb : Below w.heap.size w w1) : Rd w1 A k xs := by
  rcases h with h | ⟨g, o, rfl, h⟩
  · exact .inl h
  · exact .inr ⟨g, o, rfl, fun i hi => (hb.cell (p := ⟨g, o + i, none⟩) (lt_of_cell (h i hi))).trans (h i hi)⟩
theorem Rd.drewN {w : World} {A : Option Addr} {k : IntKind} {xs : List Int} (h : Rd w A k xs) (n : Nat) : Rd (w.drewN n) A k xs := h
theorem Rd.drew {w : World} {A : Option Addr} {k : IntKind} {xs : List Int} (h : Rd w A k xs) : Rd w.drew A k xs := h
theorem Rd.alloc {w : World} {A : Option Addr} {k : IntKind} {xs : List Int} (h : Rd w A k xs) (ob : Obj) : Rd (w.alloc ob) A k xs := h.below ((Below.refl _ _).alloc (Nat.le_refl _) _)
theorem Rd.only {w w1 : World} {A : Option Addr} {k : IntKind} {xs : List Int} {g : Nat} (h : Rd w A k xs) (hk : Only g w w1) (hne : ∀ ad, A = some ad → xs ≠ [] → ad.block ≠ g) : Rd w1 A k xs := by
  rcases h with h | ⟨g', o, rfl, h⟩
  · exact .inl h
  · by_cases he : xs = []
    · exact .inl he
    · have hb := hk.block g' (hne _ rfl he)
      exact .inr ⟨g', o, rfl, fun i hi => by rw [← h i hi]; simp only [World.cell?, hb]⟩
theorem Rd.nil (w : World) (A : Option Addr) (k : IntKind) : Rd w A k [] := .inl rfl
theorem Rd.ofBlk {w : World} {g : Nat} {t : TypeId} {k : IntKind} {xs : List Int} (h : Blk w g t (ints k xs)) : Rd w (some ⟨g, 0, none⟩) k xs :=
  .inr ⟨g, 0, rfl, fun i hi => by rw [Nat.zero_add]; exact h.cellI i hi⟩
theorem rd_take (xs : List Int) (n i : Nat) (h : i < n) : rd (xs.take n) i = rd xs i := by
  unfold rd; rw [List.getD_eq_getElem?_getD, List.getD_eq_getElem?_getD, List.getElem?_take, if_pos h]
theorem rd_drop (xs : List Int) (n i : Nat) : rd (xs.drop n) i = rd xs (n + i) := by
  unfold rd; rw [List.getD_eq_getElem?_getD, List.getD_eq_getElem?_getD, List.getElem?_drop]
theorem Rd.take {w : World} {A : Option Addr} {k : IntKind} {xs : List Int} (h : Rd w A k xs) (n : Nat) : Rd w A k (xs.take n) := by
  rcases h with h | ⟨g, o, rfl, h⟩
  · exact .inl (by simp [h])
  · exact .inr ⟨g, o, rfl, fun i hi => by
      have hi' := List.length_take_le n xs
      have : i < n := by have := List.length_take_le' n xs; rw [List.length_take] at hi; omega
      rw [rd_take _ _ _ this]; exact h i (by rw [List.length_take] at hi; omega)⟩
theorem Rd.cellAt {w : World} {g o : Nat} {k : IntKind} {xs : List Int} (h : Rd w (some ⟨g, o, none⟩) k xs) (i : Nat) (hi : i < xs.length) : w.cell? ⟨g, o + i, none⟩ = some (.int k (rd xs i)) := by
  rcases h with h | ⟨g', o', he, h⟩
  · subst h; simp at hi
  · injection he with he
    injection he with h1 h2
    subst h1 h2
    exact h i hi
theorem Rd.at {w : World} {A : Option Addr} {k : IntKind} {xs : List Int} (h : Rd w A k xs) (hne : 0 < xs.length) : ∃ g o, A = some ⟨g, o, none⟩ := by
  rcases h with h | ⟨g, o, he, _⟩
  · subst h; simp at hne
  · exact ⟨g, o, he⟩

/-- The slice value v, of the numbers xs, is the call's own: its block lies from base on. -/
def Own (w : World) (base : Nat) (e : TypeId) (k : IntKind) (v : Value) (xs : List Int) : Prop := w.ownsRow base e 1 v xs.length (ints k xs)
section
variable {w w1 : World} {base : Nat} {e : TypeId} {k : IntKind} {v : Value} {xs : List Int}
theorem Own.nil (w : World) (base : Nat) (e : TypeId) (k : IntKind) : Own w base e k (.slice none 0 0) [] := ⟨by simp [ints], .inl ⟨rfl, rfl⟩⟩
theorem Own.ofBlk {g : Nat} (h : Blk w g e (ints k xs)) (hb : base ≤ g) (hm : xs.length ≤ maxLen) : Own w base e k (.slice (some ⟨g, 0, none⟩) xs.length xs.length) xs :=
  ⟨by simp, .inr ⟨g, xs.length, (ints k xs).toArray, rfl, hb, h, Nat.le_refl _, hm, by simp, by simp [List.take_of_length_le]⟩⟩
theorem Own.slice (h : Own w base e k v xs) : ∃ A c, v = .slice A xs.length c ∧ xs.length ≤ c ∧ c ≤ maxLen ∧ Rd w A k xs := by
  obtain ⟨h1, ⟨rfl, h2⟩ | ⟨g, cap, cur, rfl, hg, hh, hn, hm, hs, ht⟩⟩ := h
  · exact ⟨none, 0, by rw [h2], by omega, by unfold maxLen; omega, .inl (List.eq_nil_of_length_eq_zero h2)⟩
  · refine ⟨_, cap, rfl, hn, hm, .inr ⟨g, 0, rfl, fun i hi => ?_⟩⟩
    have hc : w.cell? ⟨g, i, none⟩ = cur[i]? := cell_of_row w g i cur e (0, 0) hh
    rw [Nat.zero_add, hc]
    have : (ints k xs)[i]? = cur[i]? := by
      rw [← ht, Nat.mul_one, List.getElem?_take, if_pos hi]; simp
    rw [← this, ints_get k xs i hi]
theorem Own.kept {row : Option Nat} (h : Own w base e k v xs) (hg : w.grownBy w1 row) (hne : v.ownBlock = none ∨ v.ownBlock ≠ row) : Own w1 base e k v xs := by
  obtain ⟨h1, h2⟩ := h
  refine ⟨h1, ?_⟩
  rcases h2 with h2 | ⟨g, cap, cur, rfl, hb, hh, r⟩
  · exact .inl h2
  · refine .inr ⟨g, cap, cur, rfl, hb, ?_, r⟩
    rw [hg.block g (Array.getElem?_eq_some_iff.1 hh).1 ?_]
    · exact hh
    · rcases hne with hne | hne
      · simp [Value.ownBlock] at hne
      · simpa [Value.ownBlock] using hne
theorem Own.below (h : Own w base e k v xs) (hb : Below w.heap.size w w1) : Own w1 base e k v xs := by
  obtain ⟨h1, h2⟩ := h
  refine ⟨h1, ?_⟩
  rcases h2 with h2 | ⟨g, cap, cur, rfl, hg, hh, r⟩
  · exact .inl h2
  · exact .inr ⟨g, cap, cur, rfl, hg, (hb.block g (Array.getElem?_eq_some_iff.1 hh).1).trans hh, r⟩
theorem Own.alloc (h : Own w base e k v xs) (o : Obj) : Own (w.alloc o) base e k v xs := h.below ((Below.refl _ _).alloc (Nat.le_refl _) _)
theorem Own.drewN (h : Own w base e k v xs) (n : Nat) : Own (w.drewN n) base e k v xs := h
theorem Own.drew (h : Own w base e k v xs) : Own w.drew base e k v xs := h
theorem Own.lower {b : Nat} (h : Own w base e k v xs) (hb : b ≤ base) : Own w b e k v xs := by
  obtain ⟨h1, h2⟩ := h
  refine ⟨h1, ?_⟩
  rcases h2 with h2 | ⟨g, cap, cur, hv, hg, r⟩
  · exact .inl h2
  · exact .inr ⟨g, cap, cur, hv, Nat.le_trans hb hg, r⟩
theorem Own.base_le (h : Own w base e k v xs) (j : Nat) (hj : v.ownBlock = some j) : base ≤ j := by
  rcases h.2 with ⟨rfl, _⟩ | ⟨g, cap, cur, rfl, hg, r⟩
  · simp [Value.ownBlock] at hj
  · have : g = j := by simpa [Value.ownBlock] using hj
    omega
theorem Own.setOther (h : Own w base e k v xs) {a : Addr} (ha : some a.block ≠ v.ownBlock) (u : Value) : Own (w.setCell a u) base e k v xs := by
  obtain ⟨h1, h2⟩ := h
  refine ⟨h1, ?_⟩
  rcases h2 with h2 | ⟨g, cap, cur, rfl, hg, hh, r⟩
  · exact .inl h2
  · exact .inr ⟨g, cap, cur, rfl, hg, (Below.heap_setCell w a u g (fun he => ha (by simp [Value.ownBlock, he]))).trans hh, r⟩
theorem Own.ne_blk {g : Nat} {t : TypeId} {cs : List Value} (h : Own w base e k v xs) (hg : Blk w g t cs) (hne : e ≠ t) : v.ownBlock ≠ some g := by
  rcases h.2 with ⟨rfl, _⟩ | ⟨g', cap, cur, rfl, _, hh, r⟩
  · simp [Value.ownBlock]
  · intro he
    have : g' = g := by simpa [Value.ownBlock] using he
    subst this
    unfold Blk at hg
    rw [hh] at hg
    injection hg with hg
    injection hg with _ hg
    exact hne hg
theorem Own.ne_lt {g : Nat} (h : Own w base e k v xs) (hg : g < base) : v.ownBlock ≠ some g := by
  intro he
  have := h.base_le g he
  omega
end

theorem add_lit (g o j : Nat) : (⟨g, o, none⟩ : Addr).add j = ⟨g, o + j, none⟩ := by unfold Addr.add; split <;> simp_all

/-- append(s, ys...): s the call's own, ys whatever reads as numbers. -/
theorem append_list {P : Program} {w : World} {ops : Array Oper} {rest : List Oper} {o : Oper} {a : Act} {Q : Exit → Act → World → Prop} (hgd : o.guard = none) (s x : Operand) (t : TypeId)
    (ho : o.op = .call { callee := .builtin .append, args := #[s, x], argTypes := #[t, t] })
    (base : Nat) (e : TypeId) (k : IntKind) (bytes : Nat) (ht : P.underlying t = some (.slice e)) (hi : (P.info? e).map (fun i => (i.zero, i.size, i.bytes)) = some (some (.int k 0), 1, bytes))
    (v : Value) (xs : List Int) (hs : a.eval s = v) (hown : Own w base e k v xs)
    (A : Option Addr) (m c : Nat) (ys : List Int) (hx : a.eval x = .slice A m c) (hm : m = ys.length) (hA : A = none → c = 0) (hr : Rd w A k ys)
    (hbytes : (xs.length + ys.length) * bytes ≤ 140737488355328) (h63 : xs.length + ys.length ≤ 140737488355328) (hbase : base ≤ w.heap.size)
    (h : ∀ v' w', Own w' base e k v' (xs ++ ys) → w.grownBy w' v.ownBlock → wpList P ops Q rest (a.put o.dst v') w') : wpList P ops Q (o :: rest) a w := by
  obtain ⟨i, hi0, hz0, hz1, hz2⟩ := info_parts hi
  subst hm
  have h1 : ∀ u ∈ ints k ys, u.oneCell' = true := by
    intro u hu
    obtain ⟨y, _, rfl⟩ := List.mem_map.1 hu
    rfl
  cases A with
  | none =>
    have hy : ys = [] := by
      rcases hr with hr | ⟨g, o, he, _⟩
      · exact hr
      · cases he
    subst hy
    obtain rfl := hA rfl
    refine wpList_append_own_none hgd s x t ho base e i 1 ht hi0 v xs.length (ints k xs) hs hown hx ?_
    refine h v w ?_ (World.grownBy.refl _ _)
    rw [List.append_nil]
    exact hown
  | some ad =>
    refine wpList_append_own _ hgd s x t ho base e i (.int k 0) 1 bytes ht hi0 hz0 hz1 hz2 rfl (by decide) v xs.length (ints k xs) hs hown ad ys.length c (ints k ys) hx (by simp) ?_ h1 (by unfold maxLen; omega) hbytes hbase ?_
    · intro j u hj
      rcases hr with hr | ⟨g, o', he, hr⟩
      · subst hr; simp [ints] at hj
      · injection he with he
        subst he
        have hjl : j < ys.length := by
          have := (List.getElem?_eq_some_iff.1 hj).1
          simpa using this
        rw [ints_get k ys j hjl] at hj
        injection hj with hj
        subst hj
        rw [add_lit]
        exact hr j hjl
    · intro v' w' ho' hg' _
      refine h v' w' ?_ hg'
      unfold Own
      rw [List.length_append, ints_append]
      exact ho'
/-- append(s, y): s the call's own; y lies in a new block of its own. -/
theorem append_one {P : Program} {w : World} {ops : Array Oper} {rest : List Oper} {o : Oper} {a : Act} {Q : Exit → Act → World → Prop} (hgd : o.guard = none) (s x : Operand) (t : TypeId)
    (ho : o.op = .call { callee := .builtin .append, args := #[s, x], argTypes := #[t, t] })
    (base : Nat) (e : TypeId) (k : IntKind) (bytes : Nat) (ht : P.underlying t = some (.slice e)) (hi : (P.info? e).map (fun i => (i.zero, i.size, i.bytes)) = some (some (.int k 0), 1, bytes))
    (v : Value) (xs : List Int) (hs : a.eval s = v) (hown : Own w base e k v xs)
    (y : Int) (hx : a.eval x = .slice (some ⟨w.heap.size, 0, none⟩) 1 1)
    (hbytes : (xs.length + 1) * bytes ≤ 140737488355328) (h63 : xs.length + 1 ≤ 140737488355328) (hbase : base ≤ w.heap.size)
    (h : ∀ v' w', Own w' base e k v' (xs ++ [y]) → w.grownBy w' v.ownBlock → wpList P ops Q rest (a.put o.dst v') w') :
    wpList P ops Q (o :: rest) a (w.alloc (.cells #[.int k y] e)) := by
  refine append_list hgd s x t ho base e k bytes ht hi v xs hs (hown.alloc _) (some ⟨w.heap.size, 0, none⟩) 1 1 [y] hx rfl (by simp) ?_ (by simpa using hbytes) (by simpa using h63) (by simp; omega) ?_
  · exact Rd.ofBlk (t := e) (Blk.new w e (ints k [y]))
  · intro v' w' h1 h2
    exact h v' w' h1 ⟨h2.os, h2.tape, h2.output, Nat.le_trans (by simp) h2.size, fun j hj hne => (h2.block j (by simp; omega) hne).trans (Below.heap_alloc w _ j hj)⟩
theorem Own.grown_below {B base : Nat} {w0 w w1 : World} {e : TypeId} {k : IntKind} {v : Value} {xs : List Int} (h : Own w base e k v xs) (hb : Below B w0 w) (hg : w.grownBy w1 v.ownBlock) (h1 : B ≤ w.heap.size) (h2 : B ≤ base) : Below B w0 w1 :=
  hb.grown hg h1 (fun j hj => Nat.le_trans h2 (h.base_le j hj))
theorem rd_set' (xs : List Int) (i j : Nat) (x : Int) : rd (xs.set i x) j = if i = j ∧ j < xs.length then x else rd xs j := by
  unfold rd
  by_cases h : i = j
  · subst h
    by_cases hl : i < xs.length <;> simp [List.getElem?_set, hl]
  · simp [List.getElem?_set_ne h, h]
/-- copy into a block that is known whole, from its begin on. -/
theorem copy_blk {P : Program} {w : World} {ops : Array Oper} {rest : List Oper} {o : Oper} {a : Act} {Q : Exit → Act → World → Prop} (hgd : o.guard = none) (d s : Operand) (dT sT : TypeId)
    (ho : o.op = .call { callee := .builtin .copy, args := #[d, s], argTypes := #[dT, sT] }) (elem : TypeId) (hu : P.underlying dT = some (.slice elem)) (hsz : (P.info? elem).map (·.size) = some 1)
    (g dLen dCap : Nat) (hd : a.eval d = .slice (some ⟨g, 0, none⟩) dLen dCap) (A : Addr) (sLen sCap : Nat) (hs : a.eval s = .slice (some A) sLen sCap)
    (t : TypeId) (k : IntKind) (cur ys : List Int) (n : Nat) (hg : Blk w g t (ints k cur)) (hr : Rd w (some A) k ys) (hl : ys.length = sLen) (hn : n = min sLen dLen) (hfit : n ≤ cur.length)
    (h : wpList P ops Q rest (a.put o.dst (.int .i64 n)) (w.setRow g (ints k (ys.take n ++ cur.drop n)).toArray)) : wpList P ops Q (o :: rest) a w := by
  have hln : (ints k (ys.take n)).length = n := by simp; omega
  refine wpList_copy_own hgd d s dT sT ho elem hu hsz g 0 dLen dCap A sLen sCap hd hs (ints k cur).toArray t hg (ints k (ys.take n)) (by rw [hln, hn]) ?_ (by rw [hln]; simp; omega) ?_ ?_
  · intro j v hj
    have hj' : j < n := by have := (List.getElem?_eq_some_iff.1 hj).1; omega
    have hjl : j < ys.length := by omega
    rw [ints_get k _ j (by simp; try omega)] at hj
    injection hj with hj
    subst hj
    rw [rd_take _ _ _ hj']
    rcases hr with hr | ⟨g', o', he, hr⟩
    · subst hr; simp at hjl
    · injection he with he
      subst he
      rw [add_lit]
      exact hr j hjl
  · intro v hv
    obtain ⟨y, _, rfl⟩ := List.mem_map.1 hv
    rfl
  · have e : ((ints k cur).toArray.toList.take 0 ++ (ints k (ys.take n) ++ (ints k cur).toArray.toList.drop (0 + (ints k (ys.take n)).length))).toArray = (ints k (ys.take n ++ cur.drop n)).toArray := by
      rw [hln, Nat.zero_add, ints_append]
      simp [ints, List.map_drop]
    rw [e, hln]
    exact h
theorem Rd.drop {w : World} {A : Option Addr} {k : IntKind} {xs : List Int} (h : Rd w A k xs) (n c : Nat) (hn : n ≤ xs.length) (hc : xs.length ≤ c) : Rd w (if c = n then A else A.map (·.add n)) k (xs.drop n) := by
  by_cases he : n = xs.length
  · exact .inl (by rw [he]; simp)
  · rw [if_neg (by omega)]
    rcases h with h | ⟨g, o, rfl, h⟩
    · subst h; exact .inl (by simp)
    · refine .inr ⟨g, o + n, by simp [add_lit], fun i hi => ?_⟩
      rw [rd_drop, Nat.add_assoc]
      exact h (n + i) (by rw [List.length_drop] at hi; omega)
theorem max2_int (k k' : IntKind) (x y : Int) : Builtin.max2 (.int k x) (.int k' y) = pure (.int k (if x < y then y else x)) := by simp only [Builtin.max2, gt_iff_lt]
theorem min2_int (k k' : IntKind) (x y : Int) : Builtin.min2 (.int k x) (.int k' y) = pure (.int k (if y < x then y else x)) := by simp only [Builtin.min2]
/-- A byte list holds bytes. -/
def bytesOk (xs : List Int) : Prop := ∀ i, 0 ≤ rd xs i ∧ rd xs i < 256
theorem made_ints (n : Nat) : madeCells #[.int .u8 0] n = (ints .u8 (List.replicate n 0)).toArray := by
  apply Array.toList_inj.1
  rw [toList_madeCells_one]; simp [ints]
/-- Two results, each in a slot. -/
theorem results_tmp2 {P : Program} {fn : Func} {p q : Tmp} (h : fn.results = #[.tmp p, .tmp q]) (tmps : Array Value) (w : World) {u v : Value} (hp : tmps.getD p undef = u) (hq : tmps.getD q undef = v) :
    (results fn tmps).run P w = .ok (.tuple #[u, v]) w := by
  have hp' : tmps[p]?.getD undef = u := by simpa using hp
  have hq' : tmps[q]?.getD undef = v := by simpa using hq
  simp [results, h, hp', hq']
end Go.Cour
/- Laws of memory whose worlds stay letters: a new variable, a slice literal, a struct read whole. -/
namespace Go.Cour
open Go.RowKit
section
variable {P : Program} {ops : Array Oper} {rest : List Oper} {o : Oper} {a : Act} {w : World} {Q : Exit → Act → World → Prop}
/-- A new variable; its block is the letter g, the world behind it the letter w'. -/
theorem alloc_blk (hgd : o.guard = none) (ty : TypeId) (ho : o.op = .alloc ty) (d : Option Tmp) (hd : o.dst = d) (cs : List Value)
    (hz : ((P.info? ty).bind (·.zero)).map (·.cells) = some cs.toArray)
    (h : ∀ (g : Nat) (w' : World), w.heap.size = g → Blk w' g ty cs → Below w.heap.size w w' → w'.heap.size = g + 1 → wpList P ops Q rest (a.put d (.pointer (some ⟨g, 0, none⟩))) w') :
    wpList P ops Q (o :: rest) a w := by
  subst hd
  have h1 := h w.heap.size (w.alloc (.cells cs.toArray ty)) rfl (Blk.new _ _ _) ((Below.refl _ _).alloc (Nat.le_refl _) _) (by simp)
  refine wpList_plain hgd fun K hK => ?_
  unfold Oper.wp execOp
  cases hi : P.info? ty with
  | none => simp [hi] at hz
  | some i =>
    cases hz0 : i.zero with
    | none => simp [hi, hz0] at hz
    | some z =>
      simp only [hi, hz0, Option.bind_some, Option.map_some, Option.some.injEq] at hz
      simp [ho, Instr.alloc, zeroValue, typeInfo, hi, hz0, newVar, newRow, hz]
      exact hK _ _ h1
/-- A slice literal of whole numbers, each written. -/
theorem literal_blk (hgd : o.guard = none) (t e : TypeId) (len : Nat) (parts : Array (Nat × Operand)) (ho : o.op = .buildSlice t len parts) (d : Option Tmp) (hd : o.dst = d)
    (k : IntKind) (zs : List Int)
    (hu : P.underlying t = some (.slice e)) (hsz : (P.info? e).map (·.size) = some 1) (hz : ((P.info? e).bind (·.zero)).isSome = true)
    (hlen : len = zs.length) (hpos : 0 < len) (hsmall : len ≤ 2 ^ 24)
    (hparts : parts.toList = (zs.zipIdx 0).map fun x => (x.2, Operand.const (Value.int k x.1)))
    (h : ∀ (g : Nat) (w' : World), w.heap.size = g → Blk w' g e (ints k zs) → Below w.heap.size w w' → w'.heap.size = g + 1 → wpList P ops Q rest (a.put d (.slice (some ⟨g, 0, none⟩) len len)) w') :
    wpList P ops Q (o :: rest) a w := by
  subst hd
  exact wpList_buildFlat hgd t e len parts ho k zs hu hsz hz hlen hpos hsmall hparts (h w.heap.size _ rfl (Blk.new _ _ _) ((Below.refl _ _).alloc (Nat.le_refl _) _) (by simp))
/-- A struct read whole out of its block. -/
theorem load_str (hgd : o.guard = none) (ty : TypeId) (x : Operand) (ho : o.op = .load ty x)
    (g : Nat) (hx : a.eval x = .pointer (some ⟨g, 0, none⟩)) (t : TypeId) (cs : List Value) (hg : Blk w g t cs) (fs : _) (hu : P.underlying ty = some (.struct fs))
    (hi : (P.info? ty).map (·.size) = some cs.length)
    (h : wpList P ops Q rest (a.put o.dst (.agg cs.toArray)) w) : wpList P ops Q (o :: rest) a w :=
  wpList_load_row hgd ty x ho g hx t cs.toArray (0, 0) _ hg hu rfl (by rw [hi]; simp) h
end
/-- Two results: a struct that lies in a block, and a slot. -/
theorem results_str2 {P : Program} {fn : Func} {p q : Tmp} {ty : TypeId} (h : fn.results = #[.cell p ty, .tmp q]) (tmps : Array Value) (w : World) (g : Nat) (t : TypeId) (cs : List Value) (v : Value) (fs : _)
    (hp : tmps.getD p undef = .pointer (some ⟨g, 0, none⟩)) (hq : tmps.getD q undef = v) (hg : Blk w g t cs)
    (hu : P.underlying ty = some (.struct fs)) (hi : (P.info? ty).map (·.size) = some cs.length) :
    (results fn tmps).run P w = .ok (.tuple #[.agg cs.toArray, v]) w := by
  have hp' : tmps[p]?.getD undef = .pointer (some ⟨g, 0, none⟩) := by simpa using hp
  have hq' : tmps[q]?.getD undef = v := by simpa using hq
  simp [results, h, hp', hq', asAddr, run_loadVar_row w g t ty cs.toArray (0, 0) _ hg hu rfl (by rw [hi]; simp)]
theorem Own.setRowOther {w : World} {base : Nat} {e : TypeId} {k : IntKind} {v : Value} {xs : List Int} (h : Own w base e k v xs) {g : Nat} (ha : v.ownBlock ≠ some g) (cs : Array Value) : Own (w.setRow g cs) base e k v xs := by
  obtain ⟨h1, h2⟩ := h
  refine ⟨h1, ?_⟩
  rcases h2 with h2 | ⟨g', cap, cur, rfl, hg, hh, r⟩
  · exact .inl h2
  · exact .inr ⟨g', cap, cur, rfl, hg, (setRow_other w g g' cs (fun he => ha (by simp [Value.ownBlock, he]))).trans hh, r⟩
end Go.Cour
/- Arrays of whole numbers: compared; read out of the midst of a block. -/
namespace Go.Cour
open Go.RowKit
theorem all_range_ints : ∀ (xs ys : List Int), xs.length = ys.length → ((List.range xs.length).all fun i => rd xs i == rd ys i) = decide (xs = ys)
  | [], [], _ => by simp
  | x :: xs, y :: ys, h => by
    have ih := all_range_ints xs ys (by simpa using h)
    rw [List.length_cons, List.range_succ_eq_map, List.all_cons, List.all_map]
    simp only [rd, List.getD_cons_zero, Function.comp_def, List.getD_cons_succ] at ih ⊢
    rw [ih]
    rw [Bool.eq_iff_iff]
    simp
  | [], _ :: _, h => by simp at h
  | _ :: _, [], h => by simp at h
section
variable {P : Program} (w : World)
theorem run_equalIn_ints (d : Nat) (t e : TypeId) (n : Nat) (k : IntKind) (ht : P.underlying t = some (.array n e)) (he : P.underlying e = some (.int k)) (hi : (P.info? e).map (·.size) = some 1)
    (xs ys : List Int) (hx : xs.length = n) (hy : ys.length = n) :
    (Op.equalIn (d + 2) t (.agg (ints k xs).toArray) (.agg (ints k ys).toArray)).run P w = .ok (decide (xs = ys)) w := by
  have hsz : ∀ w, (sizeOf e).run P w = .ok 1 w := fun w => by
    cases h : P.info? e with
    | none => simp [h] at hi
    | some i => simp [h] at hi; simp [sizeOf, typeInfo, h, hi]
  rw [← all_range_ints xs ys (hx.trans hy.symm), hx, List.range_eq_range', Op.equalIn]
  simp only [Sem.run_bind, run_underlying ht, Result.andThen_ok, hsz, Std.Legacy.Range.forIn_eq_forIn_range', Std.Legacy.Range.size, Nat.sub_zero, Nat.add_sub_cancel, Nat.div_one]
  have hl : ∀ i ∈ List.range' 0 n 1, i < n := fun i hi => by simpa using (List.mem_range'_1.1 hi).2
  generalize List.range' 0 n 1 = l at hl ⊢
  induction l with
  | nil => simp
  | cons i l ih =>
    have hi : i < n := hl i (by simp)
    have px : (part e (ints k xs).toArray (i * 1)).run P w = .ok (.int k (rd xs i)) w := by
      have := ints_get k xs i (by omega)
      simp [part, isAgg, run_underlying he, this]
    have py : (part e (ints k ys).toArray (i * 1)).run P w = .ok (.int k (rd ys i)) w := by
      have := ints_get k ys i (by omega)
      simp [part, isAgg, run_underlying he, this]
    have pe : (Op.equalIn (d + 1) e (.int k (rd xs i)) (.int k (rd ys i))).run P w = .ok (rd xs i == rd ys i) w := run_equalIn_int w d e k k _ _ he
    simp only [List.forIn_cons, Sem.run_bind, px, py, pe, Result.andThen_ok, List.all_cons]
    cases hb : (rd xs i == rd ys i)
    · simp
    · simp only [Bool.not_true, Bool.false_eq_true, if_false, Sem.run_pure, Result.andThen_ok, Bool.true_and]
      exact ih fun j hj => hl j (by simp [hj])
end
/-- An array read out of the midst of a block. -/
theorem load_in {P : Program} {ops : Array Oper} {rest : List Oper} {o : Oper} {a : Act} {w : World} {Q : Exit → Act → World → Prop} (hw : Region.wanted o (yielded ops a.tmps) = true) (ty : TypeId) (x : Operand) (ho : o.op = .load ty x)
    (g off : Nat) (hx : a.eval x = .pointer (some ⟨g, off, none⟩)) (cs : List Value) (hc : ∀ j v, cs[j]? = some v → w.cell? ⟨g, off + j, none⟩ = some v) (n : Nat) (e : TypeId) (hu : P.underlying ty = some (.array n e)) (hl : cs.length = n)
    (hi : (P.info? ty).map (·.size) = some n)
    (h : wpList P ops Q rest (a.put o.dst (.agg cs.toArray)) w) : wpList P ops Q (o :: rest) a w := by
  refine wpList_step fun K hK => ?_
  rw [if_pos hw]
  unfold Oper.wp execOp
  have h1 := run_loadCells_list (P := P) w ⟨g, off, none⟩ cs (fun j v hv => by rw [add_lit]; exact hc j v hv)
  rw [hl] at h1
  cases hii : P.info? ty with
  | none => simp [hii] at hi
  | some i =>
    simp [hii] at hi
    simp [ho, hx, Instr.loadAt, Instr.sureAddr, loadVar, isAgg, run_underlying hu, sizeOf, typeInfo, hii, hi, h1]
    exact hK _ _ h
/-- A composite value, guarded or not. -/
theorem build_to {P : Program} {ops : Array Oper} {rest : List Oper} {o : Oper} {a : Act} {w : World} {Q : Exit → Act → World → Prop} (hw : Region.wanted o (yielded ops a.tmps) = true) (t : TypeId) (parts : Array (Nat × Operand)) (ho : o.op = .build t parts)
    (cells : Array Value) (hf : P.built t (parts.map fun (i, x) => (i, a.eval x)).toList = some cells)
    (h : wpList P ops Q rest (a.put o.dst (.agg cells)) w) : wpList P ops Q (o :: rest) a w := by
  refine wpList_step fun K hK => ?_
  rw [if_pos hw]
  refine wp_build t parts ho (by rw [hf]; rfl) ?_
  rw [hf]
  exact hK _ _ h
/-- An own slice's parts; the empty one has no places. -/
theorem Own.parts {w : World} {base : Nat} {e : TypeId} {k : IntKind} {v : Value} {xs : List Int} (h : Own w base e k v xs) :
    ∃ A c, v = .slice A xs.length c ∧ xs.length ≤ c ∧ (A = none → c = 0) ∧ Rd w A k xs := by
  obtain ⟨A, c, rfl, h1, h2, h3⟩ := h.slice
  refine ⟨A, c, rfl, h1, fun hA => ?_, h3⟩
  rcases h.2 with ⟨hv, _⟩ | ⟨g, cap, cur, hv, r⟩
  · injection hv with _ _ h
  · injection hv with h; rw [hA] at h; cases h
/-- A slice literal of whole numbers, guarded or not. -/
theorem literal_in {P : Program} {ops : Array Oper} {rest : List Oper} {o : Oper} {a : Act} {w : World} {Q : Exit → Act → World → Prop} (hw : Region.wanted o (yielded ops a.tmps) = true) (t e : TypeId) (len : Nat) (parts : Array (Nat × Operand)) (ho : o.op = .buildSlice t len parts)
    (k : IntKind) (zs : List Int)
    (hu : P.underlying t = some (.slice e)) (hsz : (P.info? e).map (·.size) = some 1) (hz : ((P.info? e).bind (·.zero)).isSome = true)
    (hlen : len = zs.length) (hpos : 0 < len) (hsmall : len ≤ 2 ^ 24)
    (hparts : parts.toList = (zs.zipIdx 0).map fun x => (x.2, Operand.const (Value.int k x.1)))
    (h : ∀ (g : Nat) (w' : World), w.heap.size = g → Blk w' g e (ints k zs) → Below w.heap.size w w' → w'.heap.size = g + 1 → wpList P ops Q rest (a.put o.dst (.slice (some ⟨g, 0, none⟩) len len)) w') :
    wpList P ops Q (o :: rest) a w := by
  have h1 := h w.heap.size _ rfl (Blk.new w e (ints k zs)) ((Below.refl _ _).alloc (Nat.le_refl _) _) (by simp)
  cases hie : P.info? e with
  | none => simp [hie] at hsz
  | some ie =>
    simp only [hie, Option.map_some, Option.some.injEq, Option.bind_some] at hsz hz
    obtain ⟨z, hzz⟩ := Option.isSome_iff_exists.1 hz
    refine wpList_step fun K hK => ?_
    rw [if_pos hw]
    refine wp_buildSlice t e len parts ho (ints k zs).toArray ie z hu hie hzz (by rw [hsz]; omega) (by rw [hsz]; omega) ?_ (hK _ _ h1)
    rw [parts_eval a parts k zs hparts, hsz]
    exact Great.fill_flat _ _ (fun v hv => by obtain ⟨n, _, rfl⟩ := List.mem_map.1 hv; rfl) (by simp [hlen])
/-- A composite value laid into a new variable. -/
theorem box_blk {P : Program} {ops : Array Oper} {rest : List Oper} {o : Oper} {a : Act} {w : World} {Q : Exit → Act → World → Prop} (hgd : o.guard = none) (ty : TypeId) (x : Operand) (ho : o.op = .box ty x) (d : Option Tmp) (hd : o.dst = d) (cs : List Value)
    (hx : a.eval x = .agg cs.toArray)
    (h : ∀ (g : Nat) (w' : World), w.heap.size = g → Blk w' g ty cs → Below w.heap.size w w' → w'.heap.size = g + 1 → wpList P ops Q rest (a.put d (.pointer (some ⟨g, 0, none⟩))) w') :
    wpList P ops Q (o :: rest) a w := by
  subst hd
  have h1 := h w.heap.size (w.alloc (.cells cs.toArray ty)) rfl (Blk.new _ _ _) ((Below.refl _ _).alloc (Nat.le_refl _) _) (by simp)
  refine wpList_plain hgd fun K hK => ?_
  unfold Oper.wp execOp
  simp [ho, hx, Instr.box, newVar, newRow, Value.cells]
  exact hK _ _ h1
end Go.Cour
/- Errors as pointers of their own: held against each other. -/
namespace Go.Proofs.YtlikinglgegclaaDoor
open Go.RowKit Go.Cour
/-- An error of api's, by where it points. -/
def errV (a : Addr) : Value := .iface 171 (.pointer (some a))
/-- The variables, in the order in which they are numbered from 101 on. -/
def globs : List Nat := [6, 0, 5, 3, 7, 4, 8, 9, 10, 11, 12, 13, 14, 15, 2, 16, 17, 1, 18]
/-- Each variable holds an error of its own. -/
structure Errs (w : World) (P : Nat → Addr) : Prop where
  cell : ∀ i, i < 19 → w.cell? ⟨globs.getD i 0, 0, none⟩ = some (errV (P i))
  inj : ∀ i j, i < 19 → j < 19 → P i = P j → i = j
  froz : ∀ i, i < 19 → ∃ c t, w.heap[(P i).block]? = some (.cells c t (0, 0))
theorem Errs.below {w w' : World} {P : Nat → Addr} (h : Errs w P) (hb : Below w.heap.size w w') : Errs w' P := by
  refine ⟨fun i hi => ?_, h.inj, fun i hi => ?_⟩
  · have hc := h.cell i hi
    exact (hb.cell (lt_of_cell hc)).trans hc
  · obtain ⟨c, t, hf⟩ := h.froz i hi
    exact ⟨c, t, (hb.block _ (Array.getElem?_eq_some_iff.1 hf).1).trans hf⟩
theorem Errs.drewN {w : World} {P : Nat → Addr} (h : Errs w P) (n : Nat) : Errs (w.drewN n) P := ⟨h.cell, h.inj, h.froz⟩
/-- The two that opening tells. -/
def Errs2 (w : World) (P : Nat → Addr) : Prop := w.cell? ⟨5, 0, none⟩ = some (errV (P 2)) ∧ w.cell? ⟨10, 0, none⟩ = some (errV (P 8))
theorem Errs.two {w : World} {P : Nat → Addr} (h : Errs w P) : Errs2 w P := ⟨h.cell 2 (by omega), h.cell 8 (by omega)⟩
theorem Errs2.below {w w' : World} {P : Nat → Addr} (h : Errs2 w P) (hb : Below w.heap.size w w') : Errs2 w' P :=
  ⟨(hb.cell (lt_of_cell h.1)).trans h.1, (hb.cell (lt_of_cell h.2)).trans h.2⟩
theorem undErr : ∃ ms, Tryd.prog.underlying 36 = some (.interface ms) := ⟨_, Tryd.underlying36⟩
theorem undES : Tryd.prog.underlying 171 = some (.pointer 190) := by kernel_rfl
theorem compES : (Tryd.prog.info? 171).map (·.comparable) = some true := by kernel_rfl
theorem sizeES0 : (Tryd.prog.info? 190).map (·.size) = some 1 := by kernel_rfl
/-- Two of them, held against each other. -/
theorem err_eql {w : World} {P : Nat → Addr} (h : Errs w P) (i j : Nat) (hi : i < 19) (hj : j < 19) :
    (binOp .eql 36 (errV (P i)) (errV (P j))).run Tryd.prog w = .ok (.bool (decide (i = j))) w := by
  obtain ⟨ms, hms⟩ := undErr
  obtain ⟨ti, hti, hcmp⟩ := Option.map_eq_some_iff.1 compES
  obtain ⟨tj, htj, htjs⟩ := Option.map_eq_some_iff.1 sizeES0
  by_cases hij : i = j
  · subst hij
    rw [decide_eq_true rfl]
    exact run_eql_iface_ptr_same w (P i) hms undES hti hcmp htj
  · rw [decide_eq_false hij]
    obtain ⟨ci, t1, hci⟩ := h.froz i hi
    obtain ⟨cj, t2, hcj⟩ := h.froz j hj
    exact run_eql_iface_ptr_other w hms undES hti hcmp htj (by rw [htjs]; decide) (fun he => hij (h.inj i j hi hj he)) hci hcj
theorem err_nil_right (a : Addr) (w : World) : (binOp .eql 36 (errV a) .nilIface).run Tryd.prog w = .ok (.bool false) w := by
  obtain ⟨ms, hms⟩ := undErr
  have h : ∀ d : Nat, (Op.equalIn (d + 1) 36 (errV a) .nilIface).run Tryd.prog w = .ok false w := fun d => by simp [Op.equalIn, run_underlying hms, errV]
  simp only [binOp]
  simp [Op.equal, Op.maxDepth, h 9999]
theorem nil_nil (w : World) : (binOp .eql 36 .nilIface .nilIface).run Tryd.prog w = .ok (.bool true) w := by
  obtain ⟨ms, hms⟩ := undErr
  have h : ∀ d : Nat, (Op.equalIn (d + 1) 36 .nilIface .nilIface).run Tryd.prog w = .ok true w := fun d => by simp [Op.equalIn, run_underlying hms]
  simp only [binOp]
  simp [Op.equal, Op.maxDepth, h 9999]
theorem eqGuard_err (op : BinOp) (t : TypeId) (x y : Operand) (a : Addr) (v : Value) : eqGuard op t x y (errV a) v = pure () := by cases op <;> rfl
/-- api's errors, all of them below B. -/
structure ErrsAt (w : World) (P : Nat → Addr) (B : Nat) : Prop where
  errs : Errs w P
  glob : ∀ i, i < 19 → globs.getD i 0 < B
  at_ : ∀ i, i < 19 → (P i).block < B
theorem ErrsAt.of {w : World} {P : Nat → Addr} (h : Errs w P) : ErrsAt w P w.heap.size :=
  ⟨h, fun i hi => lt_of_cell (h.cell i hi), fun i hi => by obtain ⟨c, t, hc⟩ := h.froz i hi; exact (Array.getElem?_eq_some_iff.1 hc).1⟩
theorem ErrsAt.below {w w' : World} {P : Nat → Addr} {B : Nat} (h : ErrsAt w P B) (hb : Below B w w') : ErrsAt w' P B :=
  ⟨⟨fun i hi => (hb.cell (p := ⟨globs.getD i 0, 0, none⟩) (h.glob i hi)).trans (h.errs.cell i hi), h.errs.inj, fun i hi => by
    obtain ⟨c, t, hc⟩ := h.errs.froz i hi
    exact ⟨c, t, (hb.block _ (h.at_ i hi)).trans hc⟩⟩, h.glob, h.at_⟩
/-- An error, or none. -/
def erV (P : Nat → Addr) : Option Nat → Value
  | none => .nilIface
  | some k => errV (P k)
theorem err_nil_left (a : Addr) (w : World) : (binOp .eql 36 .nilIface (errV a)).run Tryd.prog w = .ok (.bool false) w := by
  obtain ⟨ms, hms⟩ := undErr
  have h : ∀ d : Nat, (Op.equalIn (d + 1) 36 .nilIface (errV a)).run Tryd.prog w = .ok false w := fun d => by simp [Op.equalIn, run_underlying hms, errV]
  simp only [binOp]
  simp [Op.equal, Op.maxDepth, h 9999]
/-- Two errors, or none, held against each other. -/
theorem erV_eql {w : World} {P : Nat → Addr} (h : Errs w P) (a b : Option Nat) (ha : ∀ k, a = some k → k < 19) (hb : ∀ k, b = some k → k < 19) :
    (binOp .eql 36 (erV P a) (erV P b)).run Tryd.prog w = .ok (.bool (decide (a = b))) w := by
  cases a with
  | none =>
    cases b with
    | none => exact nil_nil w
    | some j => rw [decide_eq_false (by simp)]; exact err_nil_left _ w
  | some i =>
    cases b with
    | none => rw [decide_eq_false (by simp)]; exact err_nil_right _ w
    | some j =>
      have := err_eql h i j (ha i rfl) (hb j rfl)
      rw [show decide (some i = some j) = decide (i = j) by simp]
      exact this
end Go.Proofs.YtlikinglgegclaaDoor
/- What the listed variables hold: each an error of its own. -/
namespace Go.Proofs.YtlikinglgegclaaDoor
open Go.ChangeShapes Go.WideShapes Go.RowKit Go.Cour
/-- An error az errors.New makes it. -/
def errD {H : Type} (text : List UInt8) : DataW H := .iface "*errors.errorString" (.ptr (.agg [.lit (.string text)]))
def NamesAt : List (String × List UInt8) → List Nat → Prop
  | [], [] => True
  | x :: l, g :: gs => (Tryd.prog.globalNamed x.1 = some g ∧ (Tryd.prog.globals[g]?).map (·.type) = some 36) ∧ NamesAt l gs
  | _, _ => False
theorem nameES : "*" ++ "errors.errorString" = "*errors.errorString" := by decide
theorem rowES (u : TypeId) (h : Tryd.prog.typeName? 3 u = some "*errors.errorString") : u = 171 :=
  typeName_ptr_named (nm := "errors.errorString") (by rw [nameES]; kernel_rfl) (by kernel_rfl) (by decide) u (by rw [nameES]; exact h)
theorem cellsES0 : Tryd.prog.cellsOf 190 = 1 := by kernel_rfl
theorem cellsStr : Tryd.prog.cellsOf 9 = 1 := by kernel_rfl
set_option maxRecDepth 100000 in
theorem laid_errs {W : World} : ∀ (l : List (String × List UInt8)) (gs : List Nat) (ps : List MemPlace), NamesAt l gs → DataW.LaidVars Tryd.prog W (l.map fun x => (x.1, errD x.2)) ps →
    (∀ b off, MemPlace.cell b off ∈ ps → (∃ c t, W.heap[b]? = some (.cells c t (0, 0))) ∧ ∀ u v, W.cell? ⟨b, off, none⟩ = some (.iface u v) → Value.okWide Tryd.prog W .any 0 u v) →
    ∃ az : List Addr, az.length = l.length ∧ (∀ i a, az[i]? = some a → W.cell? ⟨gs.getD i 0, 0, none⟩ = some (errV a) ∧ MemPlace.cell a.block a.off ∈ ps) ∧ (ps.Nodup → az.Nodup)
  | [], gs, ps, _, _, _ => ⟨[], rfl, fun i a h => by simp at h, fun _ => List.nodup_nil⟩
  | x :: l, [], ps, hn, _, _ => hn.elim
  | x :: l, g :: gs, ps, hn, hl, hr => by
    obtain ⟨⟨hg, ht⟩, hn'⟩ := hn
    obtain ⟨g0, t0, cs0, f0, p0, q0, hg0, ht0, hv0, hd0, hq0, e0⟩ := hl
    obtain rfl := Option.some.inj (hg.symm.trans hg0)
    obtain rfl := Option.some.inj (ht.symm.trans ht0)
    subst e0
    obtain ⟨l0⟩ := cs0
    have ok0 : ∀ u v, l0 = [.iface u v] → Value.okWide Tryd.prog W .any 0 u v := fun u v e => by
      subst e
      exact (hr g 0 (by simp [MemPlace.row])).2 u v (by simpa using World.var?_cell hg0 hv0 0)
    obtain ⟨a0, s0, rfl, hc0, hs0, hz0, rfl⟩ := errorString_of_trod Tryd.underlying36 rowES Tryd.underlying171 Tryd.underlying190 rfl rfl Tryd.underlying9 cellsES0 cellsStr hd0 ok0
    obtain ⟨az, h1, h2, h3⟩ := laid_errs l gs q0 hn' hq0 (fun b off hm => hr b off (List.mem_append_right _ hm))
    refine ⟨a0 :: az, by simp [h1], fun i a hi => ?_, fun hnd => ?_⟩
    · cases i with
      | zero =>
        simp only [List.getElem?_cons_zero, Option.some.injEq] at hi
        subst hi
        exact ⟨by simpa [errV] using World.var?_cell hg0 hv0 0, by simp [MemPlace.row]⟩
      | succ i =>
        obtain ⟨h4, h5⟩ := h2 i a (by simpa using hi)
        exact ⟨by simpa using h4, List.mem_append_right _ h5⟩
    · have hnq := List.Nodup.sublist (List.sublist_append_right _ _) hnd
      refine List.nodup_cons.2 ⟨fun hm => ?_, h3 hnq⟩
      obtain ⟨i, hi⟩ := List.getElem?_of_mem hm
      have h5 := (h2 i a0 hi).2
      have h6 := (List.nodup_append.1 hnd).2.2 (MemPlace.cell a0.block a0.off) (by simp [MemPlace.row]) (MemPlace.cell a0.block a0.off) h5
      exact h6 rfl
def errTexts : List (String × List UInt8) := [("courier/api.ErrOff", [116, 104, 101, 114, 101, 32, 105, 115, 32, 110, 111, 32, 112, 111, 119, 101, 114]), ("courier/api.ErrRange", [97, 32, 110, 117, 109, 98, 101, 114, 32, 111, 117, 116, 32, 111, 102, 32, 105, 116, 115, 32, 114, 97, 110, 103, 101]), ("courier/api.ErrShort", [98, 121, 116, 101, 115, 32, 116, 104, 97, 116, 32, 101, 110, 100, 32, 116, 111, 111, 32, 101, 97, 114, 108, 121]), ("courier/api.ErrTrail", [98, 121, 116, 101, 115, 32, 98, 101, 104, 105, 110, 100, 32, 116, 104, 101, 32, 101, 110, 100]), ("courier/api.ErrForm", [110, 111, 116, 32, 97, 115, 32, 105, 116, 32, 115, 104, 111, 117, 108, 100, 32, 98, 101]), ("courier/api.ErrPanic", [115, 111, 109, 101, 116, 104, 105, 110, 103, 32, 119, 101, 110, 116, 32, 119, 114, 111, 110, 103]), ("courier/api.ErrFull", [116, 104, 101, 114, 101, 32, 105, 115, 32, 110, 111, 32, 114, 111, 111, 109]), ("courier/api.ErrStore", [97, 32, 115, 116, 111, 114, 101, 32, 116, 104, 97, 116, 32, 99, 97, 110, 39, 116, 32, 98, 101]), ("courier/api.ErrTag", [110, 111, 116, 32, 115, 101, 97, 108, 101, 100, 32, 98, 121, 32, 116, 104, 97, 116, 32, 107, 101, 121]), ("courier/api.ErrGap", [116, 111, 111, 32, 109, 97, 110, 121, 32, 97, 114, 101, 32, 109, 105, 115, 115, 105, 110, 103]), ("courier/api.ErrOld", [116, 104, 97, 116, 32, 119, 97, 115, 32, 116, 104, 101, 114, 101, 32, 97, 108, 114, 101, 97, 100, 121]), ("courier/api.ErrKey", [110, 111, 32, 107, 101, 121, 32, 121, 101, 116]), ("courier/api.ErrRoot", [97, 110, 111, 116, 104, 101, 114, 32, 114, 111, 111, 116]), ("courier/api.ErrNone", [116, 104, 101, 114, 101, 32, 105, 115, 32, 110, 111, 110, 101]), ("courier/api.ErrOpen", [105, 116, 32, 105, 115, 32, 116, 104, 101, 114, 101, 32, 97, 108, 114, 101, 97, 100, 121]), ("courier/api.ErrDigest", [97, 110, 111, 116, 104, 101, 114, 32, 100, 105, 103, 101, 115, 116]), ("courier/api.ErrState", [110, 111, 116, 32, 110, 111, 119]), ("courier/api.ErrLimit", [109, 111, 114, 101, 32, 116, 104, 97, 110, 32, 109, 97, 121, 32, 98, 101]), ("courier/api.ErrClosed", [99, 108, 111, 115, 101, 100])]
theorem namesAt : NamesAt errTexts globs := ⟨⟨by kernel_rfl, by kernel_rfl⟩, ⟨by kernel_rfl, by kernel_rfl⟩, ⟨by kernel_rfl, by kernel_rfl⟩, ⟨by kernel_rfl, by kernel_rfl⟩, ⟨by kernel_rfl, by kernel_rfl⟩, ⟨by kernel_rfl, by kernel_rfl⟩, ⟨by kernel_rfl, by kernel_rfl⟩, ⟨by kernel_rfl, by kernel_rfl⟩, ⟨by kernel_rfl, by kernel_rfl⟩, ⟨by kernel_rfl, by kernel_rfl⟩, ⟨by kernel_rfl, by kernel_rfl⟩, ⟨by kernel_rfl, by kernel_rfl⟩, ⟨by kernel_rfl, by kernel_rfl⟩, ⟨by kernel_rfl, by kernel_rfl⟩, ⟨by kernel_rfl, by kernel_rfl⟩, ⟨by kernel_rfl, by kernel_rfl⟩, ⟨by kernel_rfl, by kernel_rfl⟩, ⟨by kernel_rfl, by kernel_rfl⟩, ⟨by kernel_rfl, by kernel_rfl⟩, trivial⟩
theorem errs_of_laid {W : World} (h : laidMet Tryd.prog (errTexts.map fun x => (x.1, errD x.2)) W) : ∃ P, Errs W P := by
  obtain ⟨ps, hv, hnd, hrows⟩ := h
  obtain ⟨az, h1, h2, h3⟩ := laid_errs errTexts globs ps namesAt hv hrows
  have hl : az.length = 19 := h1
  have hget : ∀ i, i < 19 → az[i]? = some (az.getD i ⟨0, 0, none⟩) := fun i hi => by
    rw [List.getD_eq_getElem?_getD, List.getElem?_eq_getElem (by omega)]; rfl
  refine ⟨fun i => az.getD i ⟨0, 0, none⟩, fun i hi => (h2 i _ (hget i hi)).1, fun i j hi hj he => ?_, fun i hi => (hrows _ _ (h2 i _ (hget i hi)).2).1⟩
  have h4 := hget i hi
  have h5 := hget j hj
  rw [he] at h4
  have hp := List.pairwise_iff_getElem.1 (h3 hnd)
  have hgi : az[i]? = some az[i] := List.getElem?_eq_getElem (by omega)
  have hgj : az[j]? = some az[j] := List.getElem?_eq_getElem (by omega)
  have heq : az[i] = az[j] := Option.some.inj (hgi.symm.trans (h4.trans (h5.symm.trans hgj)))
  rcases Nat.lt_trichotomy i j with hlt | rfl | hlt
  · exact absurd heq (hp i j (by omega) (by omega) hlt)
  · rfl
  · exact absurd heq.symm (hp j i (by omega) (by omega) hlt)
def errTexts2 : List (String × List UInt8) := [("courier/api.ErrShort", [98, 121, 116, 101, 115, 32, 116, 104, 97, 116, 32, 101, 110, 100, 32, 116, 111, 111, 32, 101, 97, 114, 108, 121]), ("courier/api.ErrTag", [110, 111, 116, 32, 115, 101, 97, 108, 101, 100, 32, 98, 121, 32, 116, 104, 97, 116, 32, 107, 101, 121])]
theorem namesAt2 : NamesAt errTexts2 [5, 10] := ⟨⟨by kernel_rfl, by kernel_rfl⟩, ⟨by kernel_rfl, by kernel_rfl⟩, trivial⟩
theorem errs2_of_laid {W : World} (h : laidMet Tryd.prog (errTexts2.map fun x => (x.1, errD x.2)) W) : ∃ P, Errs2 W P := by
  obtain ⟨ps, hv, hnd, hrows⟩ := h
  obtain ⟨az, h1, h2, h3⟩ := laid_errs errTexts2 [5, 10] ps namesAt2 hv hrows
  have hl : az.length = 2 := h1
  have hget : ∀ i, i < 2 → az[i]? = some (az.getD i ⟨0, 0, none⟩) := fun i hi => by
    rw [List.getD_eq_getElem?_getD, List.getElem?_eq_getElem (by omega)]; rfl
  exact ⟨fun i => if i = 2 then az.getD 0 ⟨0, 0, none⟩ else az.getD 1 ⟨0, 0, none⟩, (h2 0 _ (hget 0 (by omega))).1, (h2 1 _ (hget 1 (by omega))).1⟩
end Go.Proofs.YtlikinglgegclaaDoor
/- A slice of numbers that came in, as the numbers that it reads as. -/
namespace Go.Cour
open Go.RowKit Go.ChangeShapes Go.WideShapes
/-- What is known of a slice of whole numbers that came in: it is nil; or it leads to a row of 'cap' cells, the numbers 'zs' (the first 'len' are its elements), each fitting its kind. -/
def IsRow (k : IntKind) (w : World) (a : Option Addr) (len cap : Nat) (zs : List Int) : Prop :=
  (a = none ∧ len = 0 ∧ cap = 0 ∧ zs = []) ∨
  ∃ x, a = some x ∧ len ≤ cap ∧ cap ≤ maxLen ∧ zs.length = cap ∧ (∀ i, i < zs.length → w.cell? (x.add i) = some (.int k (zs.getD i 0))) ∧ ∀ n ∈ zs, (Lit.int k n).wf = true
theorem IsRow.parts {k : IntKind} {w : World} {a : Option Addr} {len cap : Nat} {zs : List Int} (h : IsRow k w a len cap zs) :
    len = (zs.take len).length ∧ (a = none → cap = 0) ∧ len ≤ cap ∧ cap ≤ maxLen ∧ Rd w a k (zs.take len) ∧ ∀ n ∈ zs.take len, (Lit.int k n).wf = true := by
  rcases h with ⟨rfl, rfl, rfl, rfl⟩ | ⟨x, rfl, h1, h2, h3, h4, h5⟩
  · exact ⟨rfl, fun _ => rfl, Nat.le_refl _, by unfold maxLen; omega, .inl rfl, fun n hn => by simp at hn⟩
  · refine ⟨by rw [List.length_take]; omega, (fun h => by cases h), h1, h2, ?_, fun n hn => h5 n (List.mem_of_mem_take hn)⟩
    by_cases hz : len = 0
    · exact .inl (by rw [hz]; rfl)
    · have h0 := h4 0 (by omega)
      have hs : x.spot = none := by
        have := World.cell?_spot h0
        simpa [Addr.add] using this
      have hx : x = ⟨x.block, x.off, none⟩ := by cases x; simp_all
      refine .inr ⟨x.block, x.off, by rw [← hx], fun i hi => ?_⟩
      rw [List.length_take] at hi
      have h6 := h4 i (by omega)
      rw [hx, add_lit] at h6
      rw [h6, rd_take _ _ _ (by omega)]
      rfl
theorem wf_u8 {x : Int} (h : (Lit.int .u8 x).wf = true) : 0 ≤ x ∧ x < 256 := by
  have h1 : IntKind.u8.min = 0 := by decide
  have h2 : IntKind.u8.max = 255 := by decide
  simp [Lit.wf, h1, h2] at h
  omega
theorem u32_wf {x : Int} (h : (Lit.int .u32 x).wf = true) : 0 ≤ x ∧ x < 4294967296 := by
  have h1 : IntKind.u32.min = 0 := by decide
  have h2 : IntKind.u32.max = 4294967295 := by decide
  simp [Lit.wf, h1, h2] at h
  omega
/-- Numbers that fit a byte are bytes wherever they are read. -/
theorem rd_bytes {xs : List Int} (h : ∀ x ∈ xs, (Lit.int .u8 x).wf = true) (i : Nat) : 0 ≤ rd xs i ∧ rd xs i < 256 := by
  unfold rd
  rw [List.getD_eq_getElem?_getD]
  cases hx : xs[i]? with
  | none => simp
  | some x => exact wf_u8 (h x (List.mem_of_getElem? hx))
section
variable {H : Type} {enc : TypeId × Value → H} {P : Program} {W : World} {base : Nat} {sp : Nat → Bool} {held : Bool}
/-- An array of whole numbers that came in. -/
theorem open_iarr {t e : TypeId} {n : Nat} {k : IntKind} (ht : P.underlying t = some (.array n e)) (he : P.underlying e = some (.int k)) (hc : P.cellsOf e = 1) (hct : P.cellsOf t = n)
    {r : Reach} {b0 : Nat} {v : Value} (hval : Value.okWide P W r b0 t v) {d : DataW H} {ps : List MemPlace} (hd : DataW.Trod enc P W base sp held t v d ps) :
    ∃ xs : List Int, v = .agg (ints k xs).toArray ∧ xs.length = n ∧ ∀ x ∈ xs, (Lit.int k x).wf = true := by
  simp only [Value.okWide, ht] at hval
  obtain ⟨cs, rfl, hsz, _⟩ := hval
  obtain ⟨fuel, hf⟩ := hd
  obtain ⟨ys, m, _, _, hl, hyl, hel⟩ := DataW.trod_array ht hf
  rw [hct] at hsz
  have hall : ∀ i, (hi : i < n) → ∃ a, cs.toList[i]? = some (.int k a) ∧ (Lit.int k a).wf = true := fun i hi => by
    have h1 := hel i hi
    rw [hc, Nat.mul_one] at h1
    have hy : ys[i]? = some ys[i] := List.getElem?_eq_getElem (by omega)
    rw [hy] at h1
    obtain ⟨a, ea, _, wa⟩ := DataW.trod_int he h1
    refine ⟨a, ?_, wa⟩
    have h2 : (((Value.agg cs).cells.toList.drop i).take 1)[0]? = some (.int k a) := by rw [ea]; rfl
    simpa [Value.cells] using h2
  refine ⟨cs.toList.map fun v => match v with | .int _ a => a | _ => 0, ?_, by simpa using hsz, ?_⟩
  · congr 1
    apply Array.ext_getElem?
    intro i
    by_cases hi : i < n
    · obtain ⟨a, h1, _⟩ := hall i hi
      have h2 : cs[i]? = some (.int k a) := by simpa using h1
      rw [h2]
      simp [ints, h2]
    · rw [Array.getElem?_eq_none (by omega), Array.getElem?_eq_none (by simp [ints]; omega)]
  · intro x hx
    obtain ⟨v, hv, rfl⟩ := List.mem_map.1 hx
    obtain ⟨i, hi⟩ := List.getElem?_of_mem hv
    have hin : i < n := by
      have := (List.getElem?_eq_some_iff.1 hi).1
      simp at this; omega
    obtain ⟨a, h1, wa⟩ := hall i hin
    rw [hi] at h1
    injection h1 with h1
    subst h1
    exact wa
end
end Go.Cour
/- Own rows of values, each of one cell; own rows of own rows of numbers. -/
namespace Go.Cour
open Go.RowKit
/-- The slice value v, of the values cs, is the call's own. -/
def OwnV (w : World) (base : Nat) (e : TypeId) (v : Value) (cs : List Value) : Prop := w.ownsRow base e 1 v cs.length cs
section
variable {w w1 : World} {base : Nat} {e e' : TypeId} {k : IntKind} {v v' : Value} {cs : List Value} {xs : List Int}
theorem OwnV.nil (w : World) (base : Nat) (e : TypeId) : OwnV w base e (.slice none 0 0) [] := ⟨by simp, .inl ⟨rfl, rfl⟩⟩
theorem OwnV.below (h : OwnV w base e v cs) (hb : Below w.heap.size w w1) : OwnV w1 base e v cs := by
  obtain ⟨h1, h2⟩ := h
  refine ⟨h1, ?_⟩
  rcases h2 with h2 | ⟨g, cap, cur, rfl, hg, hh, r⟩
  · exact .inl h2
  · exact .inr ⟨g, cap, cur, rfl, hg, (hb.block g (Array.getElem?_eq_some_iff.1 hh).1).trans hh, r⟩
theorem OwnV.drew (h : OwnV w base e v cs) : OwnV w.drew base e v cs := h
theorem OwnV.drewN (h : OwnV w base e v cs) (n : Nat) : OwnV (w.drewN n) base e v cs := h
theorem OwnV.lower {b : Nat} (h : OwnV w base e v cs) (hb : b ≤ base) : OwnV w b e v cs := by
  obtain ⟨h1, h2⟩ := h
  refine ⟨h1, ?_⟩
  rcases h2 with h2 | ⟨g, cap, cur, hv, hg, r⟩
  · exact .inl h2
  · exact .inr ⟨g, cap, cur, hv, Nat.le_trans hb hg, r⟩
theorem OwnV.base_le (h : OwnV w base e v cs) (j : Nat) (hj : v.ownBlock = some j) : base ≤ j := by
  rcases h.2 with ⟨rfl, _⟩ | ⟨g, cap, cur, rfl, hg, r⟩
  · simp [Value.ownBlock] at hj
  · have : g = j := by simpa [Value.ownBlock] using hj
    omega
theorem OwnV.grown_below {B : Nat} {w0 : World} (h : OwnV w base e v cs) (hb : Below B w0 w) (hg : w.grownBy w1 v.ownBlock) (h1 : B ≤ w.heap.size) (h2 : B ≤ base) : Below B w0 w1 :=
  hb.grown hg h1 (fun j hj => Nat.le_trans h2 (h.base_le j hj))
theorem OwnV.ne_own {base' : Nat} (h : OwnV w base e v cs) (h' : Own w base' e' k v' xs) (hne : e ≠ e') : v'.ownBlock = none ∨ v'.ownBlock ≠ v.ownBlock := by
  rcases h'.2 with ⟨rfl, _⟩ | ⟨g', cap', cur', rfl, _, hh', r'⟩
  · exact .inl rfl
  · refine .inr fun he => ?_
    rcases h.2 with ⟨rfl, _⟩ | ⟨g, cap, cur, rfl, _, hh, r⟩
    · simp [Value.ownBlock] at he
    · have : g' = g := by simpa [Value.ownBlock] using he
      subst this
      rw [hh] at hh'
      injection hh' with hh'
      injection hh' with _ hh'
      exact hne hh'
theorem OwnV.ne_blk {g : Nat} {t : TypeId} {ds : List Value} (h : OwnV w base e v cs) (hg : Blk w g t ds) (hne : e ≠ t) : some g ≠ v.ownBlock := by
  rcases h.2 with ⟨rfl, _⟩ | ⟨g', cap, cur, rfl, _, hh, r⟩
  · simp [Value.ownBlock]
  · intro he
    have : g = g' := by simpa [Value.ownBlock] using he
    subst this
    unfold Blk at hg
    rw [hh] at hg
    injection hg with hg
    injection hg with _ hg
    exact hne hg
/-- Its parts: where it lies, what is read there. -/
theorem OwnV.parts (h : OwnV w base e v cs) : ∃ A c, v = .slice A cs.length c ∧ cs.length ≤ c ∧ (A = none → c = 0) ∧ ∀ i, i < cs.length → ∃ g, A = some ⟨g, 0, none⟩ ∧ w.cell? ⟨g, i, none⟩ = cs[i]? := by
  obtain ⟨h1, ⟨rfl, h2⟩ | ⟨g, cap, cur, rfl, hg, hh, hn, hm, hs, ht⟩⟩ := h
  · exact ⟨none, 0, by rw [h2], by omega, fun _ => rfl, fun i hi => by omega⟩
  · refine ⟨_, cap, rfl, hn, (fun h => by cases h), fun i hi => ⟨g, rfl, ?_⟩⟩
    have hc : w.cell? ⟨g, i, none⟩ = cur[i]? := cell_of_row w g i cur e (0, 0) hh
    rw [hc, ← ht, Nat.mul_one, List.getElem?_take, if_pos hi]; simp
end
/-- append(s, y): s the call's own; y lies in a block of one cell. -/
theorem append_val {P : Program} {w : World} {ops : Array Oper} {rest : List Oper} {o : Oper} {a : Act} {Q : Exit → Act → World → Prop} (hgd : o.guard = none) (s x : Operand) (t : TypeId)
    (ho : o.op = .call { callee := .builtin .append, args := #[s, x], argTypes := #[t, t] })
    (base : Nat) (e : TypeId) (bytes : Nat) (ht : P.underlying t = some (.slice e)) (hi : (P.info? e).map (fun i => (i.zero.map (·.cells.size), i.size, i.bytes)) = some (some 1, 1, bytes))
    (v : Value) (cs : List Value) (hs : a.eval s = v) (hown : OwnV w base e v cs)
    (g : Nat) (u : Value) (hx : a.eval x = .slice (some ⟨g, 0, none⟩) 1 1) (hg : Blk w g e [u]) (h1 : u.oneCell' = true)
    (hbytes : (cs.length + 1) * bytes ≤ 140737488355328) (h63 : cs.length + 1 ≤ 140737488355328) (hbase : base ≤ w.heap.size)
    (h : ∀ v' w', OwnV w' base e v' (cs ++ [u]) → w.grownBy w' v.ownBlock → wpList P ops Q rest (a.put o.dst v') w') :
    wpList P ops Q (o :: rest) a w := by
  cases hie : P.info? e with
  | none => simp [hie] at hi
  | some i =>
    cases hz : i.zero with
    | none => simp [hie, hz] at hi
    | some z =>
      simp [hie, hz] at hi
      refine wpList_append_own w hgd s x t ho base e i z 1 bytes ht hie hz hi.2.1 hi.2.2 (by simpa using hi.1) (by omega) v cs.length cs hs hown ⟨g, 0, none⟩ 1 1 [u] hx (by simp) ?_ ?_ (by unfold maxLen; omega) hbytes hbase ?_
      · intro j u' hj
        rw [add_lit, Nat.zero_add, hg.cell]
        exact hj
      · intro u' hu'
        obtain rfl := List.mem_singleton.1 hu'
        exact h1
      · intro v' w' h2 h3 _
        refine h v' w' ?_ h3
        unfold OwnV
        rw [List.length_append]
        exact h2
/-- A slice literal of one value. -/
theorem literal_one {P : Program} {ops : Array Oper} {rest : List Oper} {o : Oper} {a : Act} {w : World} {Q : Exit → Act → World → Prop} (hw : Region.wanted o (yielded ops a.tmps) = true) (t e : TypeId) (x : Operand) (ho : o.op = .buildSlice t 1 #[(0, x)])
    (u : Value) (hu : a.eval x = u) (h1 : u.cells = #[u]) (ht : P.underlying t = some (.slice e)) (hsz : (P.info? e).map (·.size) = some 1) (hz : ((P.info? e).bind (·.zero)).isSome = true)
    (h : ∀ (g : Nat) (w' : World), w.heap.size = g → Blk w' g e [u] → Below w.heap.size w w' → w'.heap.size = g + 1 → wpList P ops Q rest (a.put o.dst (.slice (some ⟨g, 0, none⟩) 1 1)) w') :
    wpList P ops Q (o :: rest) a w := by
  have h2 := h w.heap.size _ rfl (Blk.new w e [u]) ((Below.refl _ _).alloc (Nat.le_refl _) _) (by simp)
  cases hie : P.info? e with
  | none => simp [hie] at hsz
  | some ie =>
    simp only [hie, Option.map_some, Option.some.injEq, Option.bind_some] at hsz hz
    obtain ⟨z, hzz⟩ := Option.isSome_iff_exists.1 hz
    refine wpList_step fun K hK => ?_
    rw [if_pos hw]
    refine wp_buildSlice t e 1 _ ho [u].toArray ie z ht hie hzz (by rw [hsz]; omega) (by rw [hsz]; omega) ?_ (hK _ _ h2)
    have hp : ((#[((0 : Nat), x)] : Array (Nat × Operand)).map fun (i, x) => (i, a.eval x)).toList = [(0, u)] := by simp [hu]
    rw [hp, hsz]
    exact Great.fill_flat [u] _ (fun v hv => by obtain rfl := List.mem_singleton.1 hv; exact h1) (by simp)
/-- Own rows of numbers in an own row. -/
def OwnL (w : World) (base : Nat) (e e1 : TypeId) (k : IntKind) (v : Value) (xss : List (List Int)) : Prop :=
  ∃ cs, OwnV w base e v cs ∧ cs.length = xss.length ∧ ∀ j, j < xss.length → Own w base e1 k (cs.getD j undef) (xss.getD j [])
section
variable {w w1 : World} {base : Nat} {e e1 : TypeId} {k : IntKind} {v : Value} {xss : List (List Int)}
theorem OwnL.nil (w : World) (base : Nat) (e e1 : TypeId) (k : IntKind) : OwnL w base e e1 k (.slice none 0 0) [] := ⟨[], OwnV.nil _ _ _, rfl, fun j hj => by simp at hj⟩
theorem OwnL.below (h : OwnL w base e e1 k v xss) (hb : Below w.heap.size w w1) : OwnL w1 base e e1 k v xss := by
  obtain ⟨cs, h1, h2, h3⟩ := h
  exact ⟨cs, h1.below hb, h2, fun j hj => (h3 j hj).below hb⟩
theorem OwnL.drew (h : OwnL w base e e1 k v xss) : OwnL w.drew base e e1 k v xss := h
theorem OwnL.lower {b : Nat} (h : OwnL w base e e1 k v xss) (hb : b ≤ base) : OwnL w b e e1 k v xss := by
  obtain ⟨cs, h1, h2, h3⟩ := h
  exact ⟨cs, h1.lower hb, h2, fun j hj => (h3 j hj).lower hb⟩
theorem OwnL.grown_below {B : Nat} {w0 : World} (h : OwnL w base e e1 k v xss) (hb : Below B w0 w) (hg : w.grownBy w1 v.ownBlock) (h1 : B ≤ w.heap.size) (h2 : B ≤ base) : Below B w0 w1 := by
  obtain ⟨cs, h3, _, _⟩ := h
  exact h3.grown_below hb hg h1 h2
end
/-- append(s, y) of an own row of numbers. -/
theorem append_row {P : Program} {w : World} {ops : Array Oper} {rest : List Oper} {o : Oper} {a : Act} {Q : Exit → Act → World → Prop} (hgd : o.guard = none) (s x : Operand) (t : TypeId)
    (ho : o.op = .call { callee := .builtin .append, args := #[s, x], argTypes := #[t, t] })
    (base : Nat) (e e1 : TypeId) (k : IntKind) (bytes : Nat) (ht : P.underlying t = some (.slice e)) (hi : (P.info? e).map (fun i => (i.zero.map (·.cells.size), i.size, i.bytes)) = some (some 1, 1, bytes)) (hne : e ≠ e1)
    (v : Value) (xss : List (List Int)) (hs : a.eval s = v) (hown : OwnL w base e e1 k v xss)
    (g : Nat) (u : Value) (ys : List Int) (hx : a.eval x = .slice (some ⟨g, 0, none⟩) 1 1) (hg : Blk w g e [u]) (hu : Own w base e1 k u ys)
    (hbytes : (xss.length + 1) * bytes ≤ 140737488355328) (h63 : xss.length + 1 ≤ 140737488355328) (hbase : base ≤ w.heap.size)
    (h : ∀ v' w', OwnL w' base e e1 k v' (xss ++ [ys]) → w.grownBy w' v.ownBlock → wpList P ops Q rest (a.put o.dst v') w') :
    wpList P ops Q (o :: rest) a w := by
  obtain ⟨cs, h1, h2, h3⟩ := hown
  obtain ⟨A, c, hv, _⟩ := hu.parts
  refine append_val hgd s x t ho base e bytes ht hi v cs hs h1 g u hx hg (by rw [hv]; rfl) (by rw [h2]; exact hbytes) (by rw [h2]; exact h63) hbase ?_
  intro v' w' h4 h5
  refine h v' w' ⟨cs ++ [u], h4, by simp [h2], fun j hj => ?_⟩ h5
  rw [List.length_append, List.length_singleton] at hj
  by_cases hjl : j < xss.length
  · have hjc : j < cs.length := by omega
    rw [List.getD_eq_getElem?_getD, List.getD_eq_getElem?_getD, List.getElem?_append_left hjl, List.getElem?_append_left hjc, ← List.getD_eq_getElem?_getD, ← List.getD_eq_getElem?_getD]
    exact (h3 j hjl).kept h5 (h1.ne_own (h3 j hjl) hne)
  · obtain rfl : j = xss.length := by omega
    rw [List.getD_eq_getElem?_getD, List.getD_eq_getElem?_getD, List.getElem?_append_right (Nat.le_refl _), ← h2, List.getElem?_append_right (Nat.le_refl _)]
    simp only [Nat.sub_self, List.getElem?_cons_zero, Option.getD_some]
    exact hu.kept h5 (h1.ne_own hu hne)
end Go.Cour
/- Memory in parts: what may change, what is read where; many things side by side. -/
namespace Go.Cour
open Go.RowKit
/-- Of the blocks that w has, those of F alone may differ in w'. -/
structure Upd (F : Nat → Prop) (w w' : World) : Prop where
  os : w'.os = w.os
  tape : w'.tape = w.tape
  output : w'.output = w.output
  size : w.heap.size ≤ w'.heap.size
  block : ∀ k, k < w.heap.size → ¬ F k → w'.heap[k]? = w.heap[k]?
def NoF : Nat → Prop := fun _ => False
section
variable {F G : Nat → Prop} {w w1 w2 w' : World}
theorem Upd.refl (F : Nat → Prop) (w : World) : Upd F w w := ⟨rfl, rfl, rfl, Nat.le_refl _, fun _ _ _ => rfl⟩
theorem Upd.trans (h : Upd F w w1) (k : Upd G w1 w2) (hG : ∀ j, j < w.heap.size → G j → F j) : Upd F w w2 :=
  ⟨k.os.trans h.os, k.tape.trans h.tape, k.output.trans h.output, Nat.le_trans h.size k.size, fun j hj hf =>
    (k.block j (Nat.lt_of_lt_of_le hj h.size) (fun hg => hf (hG j hj hg))).trans (h.block j hj hf)⟩
theorem Upd.mono (h : Upd F w w1) (hG : ∀ j, j < w.heap.size → F j → G j) : Upd G w w1 :=
  ⟨h.os, h.tape, h.output, h.size, fun j hj hf => h.block j hj (fun hF => hf (hG j hj hF))⟩
theorem Upd.of_below (h : Below w.heap.size w w1) (F : Nat → Prop) : Upd F w w1 := ⟨h.os, h.tape, h.output, h.size, fun j hj _ => h.block j hj⟩
theorem Upd.below {B : Nat} (h : Upd F w w1) (hB : B ≤ w.heap.size) (hF : ∀ j, F j → B ≤ j) : Below B w w1 :=
  ⟨h.os, h.tape, h.output, h.size, fun j hj => h.block j (by omega) (fun hf => by have := hF j hf; omega)⟩
theorem Upd.below_on {B : Nat} {w0 : World} (hb : Below B w0 w) (hB : B ≤ w.heap.size) (h : Upd F w w1) (hF : ∀ j, F j → B ≤ j) : Below B w0 w1 := hb.trans (h.below hB hF)
theorem Upd.of_grown {row : Option Nat} (h : w.grownBy w1 row) : Upd (fun j => row = some j) w w1 :=
  ⟨h.os, h.tape, h.output, h.size, fun j hj hf => h.block j hj (fun he => hf he.symm)⟩
theorem Upd.setCell (w : World) (a : Addr) (v : Value) : Upd (fun j => j = a.block) w (w.setCell a v) :=
  ⟨rfl, rfl, rfl, by simp [World.setCell], fun j _ hf => Below.heap_setCell _ _ _ _ hf⟩
theorem Upd.alloc (w : World) (o : Obj) (F : Nat → Prop) : Upd F w (w.alloc o) := Upd.of_below ((Below.refl _ _).alloc (Nat.le_refl _) _) F
theorem Upd.setRow (w : World) (g : Nat) (cs : Array Value) : Upd (fun j => j = g) w (w.setRow g cs) :=
  ⟨rfl, rfl, rfl, by simp, fun j _ hf => setRow_other w g j cs hf⟩
theorem Upd.drewN (h : Upd F w w1) (n : Nat) : Upd F w (w1.drewN n) := ⟨h.os, h.tape, h.output, h.size, h.block⟩
theorem Upd.drew (h : Upd F w w1) : Upd F w w1.drew := ⟨h.os, h.tape, h.output, h.size, h.block⟩
/-- A block that is not among those that may change. -/
theorem Blk.upd {g : Nat} {t : TypeId} {cs : List Value} (h : Blk w g t cs) (hu : Upd F w w1) (hg : ¬ F g) : Blk w1 g t cs := (hu.block g h.lt hg).trans h
theorem Rd.upd {A : Option Addr} {k : IntKind} {xs : List Int} (h : Rd w A k xs) (hu : Upd F w w1) (hg : ∀ a, A = some a → xs ≠ [] → ¬ F a.block) : Rd w1 A k xs := by
  rcases h with h | ⟨g, o, rfl, h⟩
  · exact .inl h
  · by_cases he : xs = []
    · exact .inl he
    · exact .inr ⟨g, o, rfl, fun i hi => by
        rw [← h i hi]
        have := hu.block g (lt_of_cell (h i hi)) (hg _ rfl he)
        simp only [World.cell?, this]⟩
end
/-- What is said of a value by the blocks F of memory. -/
structure HA (α : Type) where
  at_ : World → (Nat → Prop) → Value → α → Prop
  lt : ∀ {w F v x}, at_ w F v x → ∀ k, F k → k < w.heap.size
  kept : ∀ {w w' F v x}, at_ w F v x → (∀ k, F k → w'.heap[k]? = w.heap[k]?) → at_ w' F v x
  eqv : ∀ {w F G v x}, at_ w F v x → (∀ k, F k ↔ G k) → at_ w G v x
section
variable {α : Type} {H : HA α}
theorem HA.upd {w w' : World} {F G : Nat → Prop} {v : Value} {x : α} (h : H.at_ w F v x) (hu : Upd G w w') (hd : ∀ k, F k → ¬ G k) : H.at_ w' F v x :=
  H.kept h fun k hk => hu.block k (H.lt h k hk) (hd k hk)
theorem HA.below {w w' : World} {F : Nat → Prop} {v : Value} {x : α} (h : H.at_ w F v x) (hb : Below w.heap.size w w') : H.at_ w' F v x :=
  H.kept h fun k hk => hb.block k (H.lt h k hk)
/-- Things side by side. -/
def Star (H : HA α) (w : World) : (Nat → Prop) → List Value → List α → Prop
  | F, [], [] => ∀ k, ¬ F k
  | F, v :: vs, x :: xs => ∃ F1 F2, H.at_ w F1 v x ∧ Star H w F2 vs xs ∧ (∀ k, F1 k → ¬ F2 k) ∧ ∀ k, F k ↔ F1 k ∨ F2 k
  | _, _, _ => False
theorem Star.lt {w : World} : ∀ {F : Nat → Prop} {vs : List Value} {xs : List α}, Star H w F vs xs → ∀ k, F k → k < w.heap.size
  | _, [], [], h, k, hk => absurd hk (h k)
  | _, v :: vs, x :: xs, ⟨F1, F2, h1, h2, _, hF⟩, k, hk => by
    rcases (hF k).1 hk with hk | hk
    · exact H.lt h1 k hk
    · exact Star.lt h2 k hk
  | _, [], _ :: _, h, _, _ => h.elim
  | _, _ :: _, [], h, _, _ => h.elim
theorem Star.length {w : World} : ∀ {F : Nat → Prop} {vs : List Value} {xs : List α}, Star H w F vs xs → vs.length = xs.length
  | _, [], [], _ => rfl
  | _, _ :: _, _ :: _, ⟨_, _, _, h2, _, _⟩ => by simp [Star.length h2]
  | _, [], _ :: _, h => h.elim
  | _, _ :: _, [], h => h.elim
theorem Star.kept {w w' : World} : ∀ {F : Nat → Prop} {vs : List Value} {xs : List α}, Star H w F vs xs → (∀ k, F k → w'.heap[k]? = w.heap[k]?) → Star H w' F vs xs
  | _, [], [], h, _ => h
  | _, v :: vs, x :: xs, ⟨F1, F2, h1, h2, hd, hF⟩, hk => ⟨F1, F2, H.kept h1 fun k h => hk k ((hF k).2 (.inl h)), Star.kept h2 (fun k h => hk k ((hF k).2 (.inr h))), hd, hF⟩
  | _, [], _ :: _, h, _ => h.elim
  | _, _ :: _, [], h, _ => h.elim
theorem Star.eqv {w : World} : ∀ {F G : Nat → Prop} {vs : List Value} {xs : List α}, Star H w F vs xs → (∀ k, F k ↔ G k) → Star H w G vs xs
  | _, _, [], [], h, hk => fun k hg => h k ((hk k).2 hg)
  | _, _, v :: vs, x :: xs, ⟨F1, F2, h1, h2, hd, hF⟩, hk => ⟨F1, F2, h1, h2, hd, fun k => (hk k).symm.trans (hF k)⟩
  | _, _, [], _ :: _, h, _ => h.elim
  | _, _, _ :: _, [], h, _ => h.elim
theorem Star.upd {w w' : World} {F G : Nat → Prop} {vs : List Value} {xs : List α} (h : Star H w F vs xs) (hu : Upd G w w') (hd : ∀ k, F k → ¬ G k) : Star H w' F vs xs :=
  h.kept fun k hk => hu.block k (h.lt k hk) (hd k hk)
theorem Star.below {w w' : World} {F : Nat → Prop} {vs : List Value} {xs : List α} (h : Star H w F vs xs) (hb : Below w.heap.size w w') : Star H w' F vs xs :=
  h.kept fun k hk => hb.block k (h.lt k hk)
theorem Star.nil (H : HA α) (w : World) : Star H w NoF [] [] := fun _ h => h
/-- One of them; whatever it becomes, the others stand as they did. -/
theorem Star.focus {w : World} : ∀ {F : Nat → Prop} {vs : List Value} {xs : List α}, Star H w F vs xs → ∀ i, i < xs.length →
    ∃ (v : Value) (x : α) (F1 F2 : Nat → Prop), vs[i]? = some v ∧ xs[i]? = some x ∧ H.at_ w F1 v x ∧ (∀ k, F1 k → ¬ F2 k) ∧ (∀ k, F k ↔ F1 k ∨ F2 k) ∧ (∀ k, F2 k → k < w.heap.size) ∧
      ∀ w' F1' x', H.at_ w' F1' v x' → (∀ k, F1' k → ¬ F2 k) → (∀ k, F2 k → w'.heap[k]? = w.heap[k]?) → Star H w' (fun k => F1' k ∨ F2 k) vs (xs.set i x')
  | F, v :: vs, x :: xs, ⟨F1, F2, h1, h2, hd, hF⟩, 0, _ => ⟨v, x, F1, F2, rfl, rfl, h1, hd, hF, h2.lt, fun w' F1' x' h' hd' hk => ⟨F1', F2, h', h2.kept hk, hd', fun _ => Iff.rfl⟩⟩
  | F, v :: vs, x :: xs, ⟨F1, F2, h1, h2, hd, hF⟩, i + 1, hi => by
    obtain ⟨v', x', G1, G2, hv, hx, hat, hd2, hF2, hlt, hback⟩ := Star.focus h2 i (by simpa using hi)
    refine ⟨v', x', G1, fun k => F1 k ∨ G2 k, by simpa using hv, by simpa using hx, hat, fun k hk hn => ?_, fun k => ?_, fun k hk => ?_, fun w' F1' y h' hd' hk => ?_⟩
    · rcases hn with hn | hn
      · exact hd k hn ((hF2 k).2 (.inl hk))
      · exact hd2 k hk hn
    · rw [hF k, hF2 k]
      constructor
      · rintro (h | h | h)
        · exact .inr (.inl h)
        · exact .inl h
        · exact .inr (.inr h)
      · rintro (h | h | h)
        · exact .inr (.inl h)
        · exact .inl h
        · exact .inr (.inr h)
    · rcases hk with hk | hk
      · exact H.lt h1 k hk
      · exact hlt k hk
    · refine ⟨F1, fun k => F1' k ∨ G2 k, H.kept h1 fun k h => hk k (.inl h), hback w' F1' y h' (fun k h1' h2' => hd' k h1' (.inr h2')) (fun k h => hk k (.inr h)), fun k h1' h2' => ?_, fun k => ?_⟩
      · rcases h2' with h2' | h2'
        · exact hd' k h2' (.inl h1')
        · exact hd k h1' ((hF2 k).2 (.inr h2'))
      · constructor
        · rintro (h | h | h)
          · exact .inr (.inl h)
          · exact .inl h
          · exact .inr (.inr h)
        · rintro (h | h | h)
          · exact .inr (.inl h)
          · exact .inl h
          · exact .inr (.inr h)
  | _, [], [], _, _, hi => absurd hi (Nat.not_lt_zero _)
  | _, [], _ :: _, h, _, _ => h.elim
  | _, _ :: _, [], h, _, _ => h.elim
/-- One more behind them. -/
theorem Star.snoc {w : World} {v : Value} {x : α} {F1 : Nat → Prop} : ∀ {F : Nat → Prop} {vs : List Value} {xs : List α}, Star H w F vs xs → H.at_ w F1 v x → (∀ k, F k → ¬ F1 k) → Star H w (fun k => F k ∨ F1 k) (vs ++ [v]) (xs ++ [x])
  | F, [], [], h, h1, _ => ⟨F1, NoF, h1, fun _ h => h, fun _ _ h => h, fun k => ⟨fun hk => .inl (hk.resolve_left (h k)), fun hk => .inr (hk.resolve_right (fun h => h))⟩⟩
  | F, v' :: vs, x' :: xs, ⟨G1, G2, h1, h2, hd, hF⟩, h1', hdis => by
    refine ⟨G1, fun k => G2 k ∨ F1 k, h1, Star.snoc h2 h1' (fun k hk => hdis k ((hF k).2 (.inr hk))), fun k hk hn => ?_, fun k => ?_⟩
    · rcases hn with hn | hn
      · exact hd k hk hn
      · exact hdis k ((hF k).2 (.inl hk)) hn
    · show F k ∨ F1 k ↔ G1 k ∨ (G2 k ∨ F1 k)
      rw [hF k]; exact or_assoc
  | _, [], _ :: _, h, _, _ => h.elim
  | _, _ :: _, [], h, _, _ => h.elim
/-- Some of them, in their order. -/
theorem Star.part {w : World} (p : α → Bool) : ∀ {F : Nat → Prop} {vs : List Value} {xs : List α}, Star H w F vs xs → ∃ F', Star H w F' (((vs.zip xs).filter fun y => p y.2).map (·.1)) (xs.filter p) ∧ ∀ k, F' k → F k
  | F, [], [], h => ⟨F, h, fun _ h => h⟩
  | F, v :: vs, x :: xs, ⟨F1, F2, h1, h2, hd, hF⟩ => by
    obtain ⟨G, hG, hsub⟩ := Star.part p h2
    cases hp : p x with
    | false => exact ⟨G, by simpa [List.filter, hp] using hG, fun k hk => (hF k).2 (.inr (hsub k hk))⟩
    | true => exact ⟨fun k => F1 k ∨ G k, by
        simp only [List.zip_cons_cons, List.filter, hp, List.map_cons]
        exact ⟨F1, G, h1, hG, fun k h1' h2' => hd k h1' (hsub k h2'), fun _ => Iff.rfl⟩, fun k hk => (hF k).2 (hk.imp id (hsub k))⟩
  | _, [], _ :: _, h => h.elim
  | _, _ :: _, [], h => h.elim
end
theorem Own.kept' {w w' : World} {B : Nat} {e : TypeId} {k : IntKind} {v : Value} {xs : List Int} (h : Own w B e k v xs) (hk : ∀ j, v.ownBlock = some j → w'.heap[j]? = w.heap[j]?) : Own w' B e k v xs := by
  obtain ⟨h1, h2⟩ := h
  refine ⟨h1, ?_⟩
  rcases h2 with h2 | ⟨g, cap, cur, rfl, hb, hh, r⟩
  · exact .inl h2
  · exact .inr ⟨g, cap, cur, rfl, hb, (hk g rfl).trans hh, r⟩
theorem Own.lt_size {w : World} {base : Nat} {e : TypeId} {k : IntKind} {v : Value} {xs : List Int} (h : Own w base e k v xs) (j : Nat) (hj : v.ownBlock = some j) : j < w.heap.size := by
  rcases h.2 with ⟨rfl, _⟩ | ⟨g, cap, cur, rfl, hg, hh, r⟩
  · simp [Value.ownBlock] at hj
  · have : g = j := by simpa [Value.ownBlock] using hj
    subst this
    exact (Array.getElem?_eq_some_iff.1 hh).1
theorem OwnV.kept' {w w' : World} {B : Nat} {e : TypeId} {v : Value} {cs : List Value} (h : OwnV w B e v cs) (hk : ∀ j, v.ownBlock = some j → w'.heap[j]? = w.heap[j]?) : OwnV w' B e v cs := by
  obtain ⟨h1, h2⟩ := h
  refine ⟨h1, ?_⟩
  rcases h2 with h2 | ⟨g, cap, cur, rfl, hb, hh, r⟩
  · exact .inl h2
  · exact .inr ⟨g, cap, cur, rfl, hb, (hk g rfl).trans hh, r⟩
theorem OwnV.lt_size {w : World} {base : Nat} {e : TypeId} {v : Value} {cs : List Value} (h : OwnV w base e v cs) (j : Nat) (hj : v.ownBlock = some j) : j < w.heap.size := by
  rcases h.2 with ⟨rfl, _⟩ | ⟨g, cap, cur, rfl, hg, hh, r⟩
  · simp [Value.ownBlock] at hj
  · have : g = j := by simpa [Value.ownBlock] using hj
    subst this
    exact (Array.getElem?_eq_some_iff.1 hh).1
end Go.Cour
/- append(s, ..) where s is one's own: where the new slice lies. -/
namespace Go.Cour
open Go.RowKit
section
variable {P : Program} {w : World} {ops : Array Oper} {rest : List Oper} {o : Oper} {a : Act} {Q : Exit → Act → World → Prop}
/-- Where the new slice lies: where the old one did, or in a new block. -/
def Lies (v v' : Value) (w : World) : Prop := v'.ownBlock = v.ownBlock ∨ v'.ownBlock = some w.heap.size
theorem append_lies (t ty e : TypeId) (i : TypeInfo) (z : Value) (size bytes : Nat) (ht : P.underlying t = some (.slice e)) (hi : P.info? e = some i) (hz : i.zero = some z)
    (hsize : i.size = size) (hby : i.bytes = bytes)
    (v : Value) (n : Nat) (xs : List Value) (hown : w.ownsRow 0 e size v n xs)
    (ad : Addr) (m c : Nat) (news : List Value) (hl : news.length = m * size) (hnews : ∀ j u, news[j]? = some u → w.cell? (ad.add j) = some u) (h1 : ∀ u ∈ news, u.oneCell' = true)
    (h63 : n + m ≤ maxLen) (hbytes : (n + m) * bytes ≤ 140737488355328) {v' : Value} {w' : World} (hr : (Builtin.append_ #[t, t] ty #[v, .slice (some ad) m c]).run P w = .ok v' w') : Lies v v' w := by
  subst hsize
  subst hby
  have hsmall : n + m ≤ 9223372036854775807 := by simp only [maxLen] at h63; omega
  rcases hown.2 with ⟨rfl, rfl⟩ | ⟨g, cap, cur, rfl, hbg, hg, hnc, hcm, hcs, htake⟩
  · by_cases hm : m = 0
    · subst hm
      have hn : news = [] := List.eq_nil_of_length_eq_zero (by simpa using hl)
      subst hn
      simp [Builtin.append_, run_underlying ht, sizeOf, typeInfo, hi, Builtin.lenOf, Builtin.firstCells, loadCells, loadCellsFrom] at hr
      exact .inl (by rw [← hr.1])
    · have hr2 := run_append_nil (P := P) w t ty e i z ht hi hz ad m c news hl hnews (by omega) (by omega) (by have hb := hbytes; simp only [Nat.zero_add] at hb; omega)
      rw [hr2] at hr
      injection hr with hr _
      exact .inr (by rw [← hr]; rfl)
  · by_cases hroom : n + m ≤ cap
    · have hfit : n * i.size + news.length ≤ cur.size := by rw [hl, hcs, ← Nat.add_mul]; exact Nat.mul_le_mul_right _ hroom
      have hr2 := run_append_room (P := P) w t ty e i ht hi g n cap cur hg ad m c news hl hnews h1 hroom hfit
      rw [hr2] at hr
      injection hr with hr _
      exact .inl (by rw [← hr]; rfl)
    · have holds : ∀ j u, xs[j]? = some u → w.cell? ((⟨g, 0, none⟩ : Addr).add j) = some u := hown.cells (g := g) rfl
      have hr2 := run_append_grow (P := P) w t ty e i z ht hi hz ⟨g, 0, none⟩ n cap xs hown.1 holds ad m c news hl hnews (by omega) (by omega) (growslice_fits (by omega) hbytes)
      rw [hr2] at hr
      injection hr with hr _
      exact .inr (by rw [← hr]; rfl)
theorem app_row (hw : Region.wanted o (yielded ops a.tmps) = true) (s x : Operand) (t : TypeId)
    (ho : o.op = .call { callee := .builtin .append, args := #[s, x], argTypes := #[t, t] })
    (e : TypeId) (i : TypeInfo) (z : Value) (size bytes : Nat) (ht : P.underlying t = some (.slice e)) (hi : P.info? e = some i) (hz : i.zero = some z)
    (hsize : i.size = size) (hby : i.bytes = bytes) (hzs : z.cells.size = size) (hsz : 0 < size)
    (v : Value) (n : Nat) (xs : List Value) (hs : a.eval s = v) (hown : w.ownsRow 0 e size v n xs)
    (ad : Addr) (m c : Nat) (news : List Value) (hx : a.eval x = .slice (some ad) m c) (hl : news.length = m * size) (hnews : ∀ j u, news[j]? = some u → w.cell? (ad.add j) = some u) (h1 : ∀ u ∈ news, u.oneCell' = true)
    (h63 : n + m ≤ maxLen) (hbytes : (n + m) * bytes ≤ 140737488355328)
    (h : ∀ v' w', w'.ownsRow 0 e size v' (n + m) (xs ++ news) → w.grownBy w' v.ownBlock → Lies v v' w → wpList P ops Q rest (a.put o.dst v') w') : wpList P ops Q (o :: rest) a w := by
  refine wpList_step fun K hK => ?_
  rw [if_pos hw]
  obtain ⟨v', w', hr, h2, h3, _⟩ := run_append_own (P := P) w 0 t o.type e i z size bytes ht hi hz hsize hby hzs hsz v n xs hown ad m c news hl hnews h1 h63 hbytes (Nat.zero_le _)
  have h4 := append_lies (P := P) (w := w) t o.type e i z size bytes ht hi hz hsize hby v n xs hown ad m c news hl hnews h1 h63 hbytes hr
  unfold Oper.wp execOp
  simp only [ho, resolve, invoke, builtin, Sem.run_bind, Sem.run_pure, Result.andThen_ok, List.map_toArray, List.map_cons, List.map_nil, hs, hx, hr]
  exact hK _ _ (h v' w' h2 h3 h4)
/-- One value of one cell more. -/
theorem app_val (hw : Region.wanted o (yielded ops a.tmps) = true) (s x : Operand) (t : TypeId)
    (ho : o.op = .call { callee := .builtin .append, args := #[s, x], argTypes := #[t, t] })
    (e : TypeId) (bytes : Nat) (ht : P.underlying t = some (.slice e)) (hi : (P.info? e).map (fun i => (i.zero.map (·.cells.size), i.size, i.bytes)) = some (some 1, 1, bytes))
    (v : Value) (cs : List Value) (hs : a.eval s = v) (hown : OwnV w 0 e v cs)
    (g : Nat) (u : Value) (hx : a.eval x = .slice (some ⟨g, 0, none⟩) 1 1) (hg : Blk w g e [u]) (h1 : u.oneCell' = true)
    (hbytes : (cs.length + 1) * bytes ≤ 140737488355328) (h63 : cs.length + 1 ≤ 140737488355328)
    (h : ∀ v' w', OwnV w' 0 e v' (cs ++ [u]) → w.grownBy w' v.ownBlock → Lies v v' w → wpList P ops Q rest (a.put o.dst v') w') :
    wpList P ops Q (o :: rest) a w := by
  cases hie : P.info? e with
  | none => simp [hie] at hi
  | some i =>
    cases hz : i.zero with
    | none => simp [hie, hz] at hi
    | some z =>
      simp [hie, hz] at hi
      refine app_row hw s x t ho e i z 1 bytes ht hie hz hi.2.1 hi.2.2 (by simpa using hi.1) (by omega) v cs.length cs hs hown ⟨g, 0, none⟩ 1 1 [u] hx (by simp) ?_ ?_ (by unfold maxLen; omega) hbytes ?_
      · intro j u' hj
        rw [add_lit, Nat.zero_add, hg.cell]
        exact hj
      · intro u' hu'
        obtain rfl := List.mem_singleton.1 hu'
        exact h1
      · intro v' w' h2 h3 h4
        refine h v' w' ?_ h3 h4
        unfold OwnV
        rw [List.length_append]
        exact h2
/-- Numbers more. -/
theorem app_ints (hw : Region.wanted o (yielded ops a.tmps) = true) (s x : Operand) (t : TypeId)
    (ho : o.op = .call { callee := .builtin .append, args := #[s, x], argTypes := #[t, t] })
    (e : TypeId) (k : IntKind) (bytes : Nat) (ht : P.underlying t = some (.slice e)) (hi : (P.info? e).map (fun i => (i.zero, i.size, i.bytes)) = some (some (.int k 0), 1, bytes))
    (v : Value) (xs : List Int) (hs : a.eval s = v) (hown : Own w 0 e k v xs)
    (A : Option Addr) (m c : Nat) (ys : List Int) (hx : a.eval x = .slice A m c) (hm : m = ys.length) (hA : A = none → c = 0) (hr : Rd w A k ys)
    (hbytes : (xs.length + ys.length) * bytes ≤ 140737488355328) (h63 : xs.length + ys.length ≤ 140737488355328)
    (h : ∀ v' w', Own w' 0 e k v' (xs ++ ys) → w.grownBy w' v.ownBlock → Lies v v' w → wpList P ops Q rest (a.put o.dst v') w') : wpList P ops Q (o :: rest) a w := by
  obtain ⟨i, hi0, hz0, hz1, hz2⟩ := info_parts hi
  subst hm
  have h1 : ∀ u ∈ ints k ys, u.oneCell' = true := by
    intro u hu
    obtain ⟨y, _, rfl⟩ := List.mem_map.1 hu
    rfl
  cases A with
  | none =>
    have hy : ys = [] := by
      rcases hr with hr | ⟨g, o, he, _⟩
      · exact hr
      · cases he
    subst hy
    obtain rfl := hA rfl
    refine wpList_step fun K hK => ?_
    rw [if_pos hw]
    have hrun := run_append_owned_none (P := P) (w := w) 0 t o.type e i 1 ht hi0 v xs.length (ints k xs) hown
    unfold Oper.wp
    simp [execOp, ho, resolve, invoke, builtin, hs, hx, hrun, Result.andThen]
    refine hK _ _ (h v w ?_ (World.grownBy.refl _ _) (.inl rfl))
    rw [List.append_nil]
    exact hown
  | some ad =>
    refine app_row hw s x t ho e i (.int k 0) 1 bytes ht hi0 hz0 hz1 hz2 rfl (by decide) v xs.length (ints k xs) hs hown ad ys.length c (ints k ys) hx (by simp) ?_ h1 (by unfold maxLen; omega) hbytes ?_
    · intro j u hj
      rcases hr with hr | ⟨g, o', he, hr⟩
      · subst hr; simp [ints] at hj
      · injection he with he
        subst he
        have hjl : j < ys.length := by
          have := (List.getElem?_eq_some_iff.1 hj).1
          simpa using this
        rw [ints_get k ys j hjl] at hj
        injection hj with hj
        subst hj
        rw [add_lit]
        exact hr j hjl
    · intro v' w' ho' hg' h4
      refine h v' w' ?_ hg' h4
      unfold Own
      rw [List.length_append, ints_append]
      exact ho'
end
end Go.Cour
/- Memory as a list of things side by side; what a call may change. -/
namespace Go.Cour
open Go.RowKit
/-- Something that is said of some blocks of memory. -/
structure Ent where
  F : Nat → Prop
  p : World → Prop
  lt : ∀ {w}, p w → ∀ k, F k → k < w.heap.size
  kept : ∀ {w w'}, p w → (∀ k, F k → w'.heap[k]? = w.heap[k]?) → p w'
def Ent.blk (g : Nat) (t : TypeId) (cs : List Value) : Ent where
  F := fun k => k = g
  p := fun w => Blk w g t cs
  lt := fun h k hk => hk ▸ h.lt
  kept := fun h hk => (hk g rfl).trans h
def Ent.own (e : TypeId) (k : IntKind) (v : Value) (xs : List Int) : Ent where
  F := fun j => v.ownBlock = some j
  p := fun w => Own w 0 e k v xs
  lt := fun h j hj => h.lt_size j hj
  kept := fun h hk => h.kept' hk
def Ent.ownV (e : TypeId) (v : Value) (cs : List Value) : Ent where
  F := fun j => v.ownBlock = some j
  p := fun w => OwnV w 0 e v cs
  lt := fun h j hj => h.lt_size j hj
  kept := fun h hk => h.kept' hk
def Ent.ha {α : Type} (H : HA α) (F : Nat → Prop) (v : Value) (x : α) : Ent where
  F := F
  p := fun w => H.at_ w F v x
  lt := fun h k hk => H.lt h k hk
  kept := fun h hk => H.kept h hk
/-- Things side by side. -/
def Mem (w : World) : List Ent → Prop
  | [] => True
  | e :: L => e.p w ∧ (∀ f ∈ L, ∀ k, e.F k → ¬ f.F k) ∧ Mem w L
section
variable {w w' : World} {L : List Ent} {e e' : Ent}
theorem Mem.get : ∀ {L : List Ent} {i : Nat} {e : Ent}, Mem w L → L[i]? = some e → e.p w
  | _ :: _, 0, _, h, hi => by simp at hi; exact hi ▸ h.1
  | _ :: L, i + 1, _, h, hi => Mem.get h.2.2 (by simpa using hi)
  | [], _, _, _, hi => by simp at hi
theorem Mem.keptAll : ∀ {L : List Ent}, Mem w L → (∀ e ∈ L, ∀ k, e.F k → w'.heap[k]? = w.heap[k]?) → Mem w' L
  | [], _, _ => trivial
  | e :: _, h, hk => ⟨e.kept h.1 (hk e (by simp)), h.2.1, Mem.keptAll h.2.2 fun f hf => hk f (by simp [hf])⟩
theorem Mem.lt (h : Mem w L) (he : e ∈ L) (k : Nat) (hk : e.F k) : k < w.heap.size := by
  obtain ⟨i, hi⟩ := List.getElem?_of_mem he
  exact e.lt (h.get hi) k hk
theorem Mem.apart : ∀ {L : List Ent} {i j : Nat} {e f : Ent}, Mem w L → L[i]? = some e → L[j]? = some f → i ≠ j → ∀ k, e.F k → ¬ f.F k
  | _ :: _, 0, 0, _, _, _, _, _, hn => absurd rfl hn
  | _ :: L, 0, j + 1, e, f, h, hi, hj, _ => by
    simp at hi hj; subst hi
    exact h.2.1 f (List.mem_of_getElem? hj)
  | _ :: L, i + 1, 0, e, f, h, hi, hj, _ => by
    simp at hi hj; subst hj
    exact fun k hk hf => h.2.1 e (List.mem_of_getElem? hi) k hf hk
  | _ :: L, i + 1, j + 1, e, f, h, hi, hj, hn => Mem.apart h.2.2 (by simpa using hi) (by simpa using hj) (by omega)
  | [], _, _, _, _, _, hi, _, _ => by simp at hi
theorem Mem.erase : ∀ {L : List Ent} (i : Nat), Mem w L → Mem w (L.eraseIdx i)
  | [], _, h => by simpa using h
  | _ :: _, 0, h => h.2.2
  | e :: L, i + 1, h => ⟨h.1, fun f hf => h.2.1 f (List.mem_of_mem_eraseIdx hf), Mem.erase i h.2.2⟩
/-- What a call may have changed (F, and what is new), and what there is, side by side. -/
structure HS (F : Nat → Prop) (w0 w : World) (L : List Ent) : Prop where
  upd : Upd F w0 w
  mem : Mem w L
  own : ∀ e ∈ L, ∀ k, e.F k → F k ∨ w0.heap.size ≤ k
variable {F : Nat → Prop} {w0 : World}
theorem HS.start (F : Nat → Prop) (w : World) : HS F w w [] := ⟨Upd.refl _ _, trivial, fun _ h => by simp at h⟩
theorem HS.get (h : HS F w0 w L) {i : Nat} (hi : L[i]? = some e) : e.p w := h.mem.get hi
theorem HS.blk (h : HS F w0 w L) (i : Nat) {g : Nat} {t : TypeId} {cs : List Value} (hi : L[i]? = some (.blk g t cs)) : Blk w g t cs := h.mem.get hi
theorem HS.ownI (h : HS F w0 w L) (i : Nat) {t : TypeId} {k : IntKind} {v : Value} {xs : List Int} (hi : L[i]? = some (.own t k v xs)) : Own w 0 t k v xs := h.mem.get hi
theorem HS.ownV (h : HS F w0 w L) (i : Nat) {t : TypeId} {v : Value} {cs : List Value} (hi : L[i]? = some (.ownV t v cs)) : OwnV w 0 t v cs := h.mem.get hi
theorem HS.ha (h : HS F w0 w L) (i : Nat) {α : Type} {H : HA α} {G : Nat → Prop} {v : Value} {x : α} (hi : L[i]? = some (.ha H G v x)) : H.at_ w G v x := h.mem.get hi
theorem HS.size (h : HS F w0 w L) : w0.heap.size ≤ w.heap.size := h.upd.size
theorem HS.below (h : HS F w0 w L) (hb : Below w.heap.size w w') : HS F w0 w' L :=
  ⟨h.upd.trans (Upd.of_below hb F) fun _ _ hk => hk, h.mem.keptAll fun e he k hk => hb.block k (h.mem.lt he k hk), h.own⟩
theorem HS.drew (h : HS F w0 w L) : HS F w0 w.drew L := h.below (below_drewN (Below.refl _ _) 1)
theorem HS.drewN (h : HS F w0 w L) (n : Nat) : HS F w0 (w.drewN n) L := h.below (below_drewN (Below.refl _ _) n)
/-- A new thing. -/
theorem HS.push (h : HS F w0 w L) (hb : Below w.heap.size w w') (e : Ent) (he : e.p w') (hn : ∀ k, e.F k → w.heap.size ≤ k) : HS F w0 w' (e :: L) :=
  ⟨(h.below hb).upd, ⟨he, fun f hf k hk hfk => by have := hn k hk; have := h.mem.lt hf k hfk; omega, (h.below hb).mem⟩, fun f hf k hk => by
    rcases List.mem_cons.1 hf with rfl | hf
    · exact .inr (Nat.le_trans h.size (hn k hk))
    · exact h.own f hf k hk⟩
theorem HS.pushBlk (h : HS F w0 w L) (hb : Below w.heap.size w w') {g : Nat} {t : TypeId} {cs : List Value} (he : Blk w' g t cs) (hg : w.heap.size = g) : HS F w0 w' (.blk g t cs :: L) :=
  h.push hb _ he fun k hk => by have : k = g := hk; omega
theorem HS.alloc (h : HS F w0 w L) (t : TypeId) (cs : List Value) {g : Nat} (hg : w.heap.size = g) : HS F w0 (w.alloc (.cells cs.toArray t)) (.blk g t cs :: L) :=
  h.pushBlk ((Below.refl _ _).alloc (Nat.le_refl _) _) (hg ▸ Blk.new _ _ _) hg
/-- A thing that was there at the begin, and may be changed. -/
theorem HS.take (h : HS F w0 w L) (e : Ent) (he : e.p w) (hF : ∀ k, e.F k → F k ∨ w0.heap.size ≤ k) (hd : ∀ f ∈ L, ∀ k, e.F k → ¬ f.F k) : HS F w0 w (e :: L) :=
  ⟨h.upd, ⟨he, hd, h.mem⟩, fun f hf => by
    rcases List.mem_cons.1 hf with rfl | hf
    · exact hF
    · exact h.own f hf⟩
theorem Mem.set1 : ∀ {L : List Ent} {i : Nat} {e e' : Ent} {w w' : World}, Mem w L → L[i]? = some e → (∀ k, k < w.heap.size → ¬ e.F k → w'.heap[k]? = w.heap[k]?) → e'.p w' → (∀ k, e'.F k → e.F k ∨ w.heap.size ≤ k) → Mem w' (L.set i e')
  | e :: L, 0, _, e', w, w', h, hi, hk, he', hF => by
    simp at hi; subst hi
    refine ⟨he', fun f hf k hk' hfk => ?_, Mem.keptAll h.2.2 fun f hf k hfk => hk k (h.2.2.lt hf k hfk) fun hek => h.2.1 f hf k hek hfk⟩
    rcases hF k hk' with h1 | h1
    · exact h.2.1 f hf k h1 hfk
    · have := h.2.2.lt hf k hfk; omega
  | e0 :: L, i + 1, e, e', w, w', h, hi, hk, he', hF => by
    have hi' : L[i]? = some e := by simpa using hi
    have hmem := List.mem_of_getElem? hi'
    refine ⟨e0.kept h.1 fun k hk0 => hk k (e0.lt h.1 k hk0) (h.2.1 e hmem k hk0), fun f hf k hk0 hfk => ?_, Mem.set1 h.2.2 hi' hk he' hF⟩
    rcases List.mem_or_eq_of_mem_set hf with hf | rfl
    · exact h.2.1 f hf k hk0 hfk
    · rcases hF k hfk with h1 | h1
      · exact h.2.1 e hmem k hk0 h1
      · have := e0.lt h.1 k hk0; omega
  | [], _, _, _, _, _, _, hi, _, _, _ => by simp at hi
/-- One thing has become another one; all others stand. -/
theorem HS.upd1 (h : HS F w0 w L) (i : Nat) (hi : L[i]? = some e) (hu : Upd e.F w w') (e' : Ent) (he' : e'.p w') (hF : ∀ k, e'.F k → e.F k ∨ w.heap.size ≤ k) : HS F w0 w' (L.set i e') := by
  have hmem := List.mem_of_getElem? hi
  refine ⟨⟨hu.os.trans h.upd.os, hu.tape.trans h.upd.tape, hu.output.trans h.upd.output, Nat.le_trans h.size hu.size, fun k hk hf => ?_⟩, h.mem.set1 hi hu.block he' hF, fun f hf k hfk => ?_⟩
  · refine (hu.block k (Nat.lt_of_lt_of_le hk h.size) fun hek => ?_).trans (h.upd.block k hk hf)
    rcases h.own e hmem k hek with h1 | h1
    · exact hf h1
    · omega
  · rcases List.mem_or_eq_of_mem_set hf with hf | rfl
    · exact h.own f hf k hfk
    · rcases hF k hfk with h1 | h1
      · exact h.own e hmem k h1
      · exact .inr (Nat.le_trans h.size h1)
theorem HS.erase (h : HS F w0 w L) (i : Nat) : HS F w0 w (L.eraseIdx i) := ⟨h.upd, h.mem.erase i, fun e he => h.own e (List.mem_of_mem_eraseIdx he)⟩
theorem HS.setCell (h : HS F w0 w L) (i : Nat) {g : Nat} {t : TypeId} {cs : List Value} (hi : L[i]? = some (.blk g t cs)) (j : Nat) (v : Value) : HS F w0 (w.setCell ⟨g, j, none⟩ v) (L.set i (.blk g t (cs.set j v))) :=
  h.upd1 i hi ((Upd.setCell w ⟨g, j, none⟩ v).mono fun _ _ hk => hk) _ ((h.blk i hi).set j v) fun k hk => .inl hk
theorem HS.setI (h : HS F w0 w L) (i : Nat) {g : Nat} {t : TypeId} {k : IntKind} {xs : List Int} (hi : L[i]? = some (.blk g t (ints k xs))) (j : Nat) (x : Int) : HS F w0 (w.setCell ⟨g, j, none⟩ (.int k x)) (L.set i (.blk g t (ints k (xs.set j x)))) := by
  have := h.setCell i hi j (.int k x)
  rwa [ints_set] at this
theorem HS.setRow (h : HS F w0 w L) (i : Nat) {g : Nat} {t : TypeId} {cs : List Value} (hi : L[i]? = some (.blk g t cs)) (cs' : List Value) : HS F w0 (w.setRow g cs'.toArray) (L.set i (.blk g t cs')) :=
  h.upd1 i hi ((Upd.setRow w g cs'.toArray).mono fun _ _ hk => hk) _ ((h.blk i hi).setRow cs') fun k hk => .inl hk
/-- What was there, and may not be changed, reads as it did. -/
theorem HS.old (h : HS F w0 w L) {k : Nat} (hk : k < w0.heap.size) (hF : ¬ F k) : w.heap[k]? = w0.heap[k]? := h.upd.block k hk hF
theorem HS.oldCell (h : HS F w0 w L) {g i : Nat} {v : Value} (hc : w0.cell? ⟨g, i, none⟩ = some v) (hF : ¬ F g) : w.cell? ⟨g, i, none⟩ = some v := by
  rw [← hc]; have := h.old (lt_of_cell hc) hF; simp only [World.cell?, this]
theorem HS.oldRd (h : HS F w0 w L) {A : Option Addr} {k : IntKind} {xs : List Int} (hr : Rd w0 A k xs) (hF : ∀ a, A = some a → xs ≠ [] → ¬ F a.block) : Rd w A k xs := hr.upd h.upd hF
theorem HS.oldBlk (h : HS F w0 w L) {g : Nat} {t : TypeId} {cs : List Value} (hb : Blk w0 g t cs) (hF : ¬ F g) : Blk w g t cs := (h.old hb.lt hF).trans hb
/-- Nothing but what is new was changed. -/
theorem HS.bel (h : HS NoF w0 w L) : Below w0.heap.size w0 w := h.upd.below (Nat.le_refl _) fun _ hk => hk.elim
theorem HS.frozen (h : HS F w0 w L) (i : Nat) {g : Nat} {t : TypeId} {cs : List Value} (hi : L[i]? = some (.blk g t cs)) (j : Nat) : w.frozen? ⟨g, j, none⟩ = false := (h.blk i hi).frozen j
theorem HS.cellI (h : HS F w0 w L) (i : Nat) {g : Nat} {t : TypeId} {k : IntKind} {xs : List Int} (hi : L[i]? = some (.blk g t (ints k xs))) (j : Nat) (hj : j < xs.length) : w.cell? ⟨g, j, none⟩ = some (.int k (rd xs j)) := (h.blk i hi).cellI j hj
theorem HS.cell (h : HS F w0 w L) (i : Nat) {g : Nat} {t : TypeId} {cs : List Value} (hi : L[i]? = some (.blk g t cs)) (j : Nat) : w.cell? ⟨g, j, none⟩ = cs[j]? := (h.blk i hi).cell j
end
end Go.Cour
/- A region that draws its order: one fact for each operation, shown once; whatever the order, all facts hold behind it. -/
namespace Go.Cour
/-- What is known of an operation's value, and of the world; it speaks of the values of the operations idx only. -/
structure Fact where
  idx : List Nat
  p : (Nat → Value) → World → Prop
def Fact.at (f : Fact) (vs : Nat → Value) (w : World) : Prop := f.p (fun i => if f.idx.contains i then vs i else undef) w
theorem Fact.at_congr (f : Fact) {vs us : Nat → Value} (h : ∀ i ∈ f.idx, vs i = us i) {w : World} (hf : f.at vs w) : f.at us w := by
  unfold Fact.at at *
  have : (fun i => if f.idx.contains i then vs i else undef) = (fun i => if f.idx.contains i then us i else undef) := by
    funext i
    by_cases hc : f.idx.contains i = true
    · simp only [hc, if_true]; exact h i (by simpa using hc)
    · rw [if_neg hc, if_neg hc]
  rw [← this]; exact hf
/-- The operations' values, laid in their order. -/
def fill (vs : Nat → Value) : Nat → List Oper → Act → Act
  | _, [], a => a
  | k, o :: rest, a => fill vs (k + 1) rest (a.put o.dst (vs k))
def got (a : Act) : Option Tmp → Value
  | some d => a.tmps.getD d undef
  | none => undef
theorem put_defers (a : Act) (d : Option Tmp) (v : Value) : (a.put d v).defers = a.defers := by cases d <;> rfl
theorem put_size (a : Act) (d : Option Tmp) (v : Value) : (a.put d v).tmps.size = a.tmps.size := by cases d <;> simp [Act.put]
theorem put_other (a : Act) (d : Option Tmp) (v : Value) (t : Nat) (h : d ≠ some t) : (a.put d v).tmps[t]? = a.tmps[t]? := by
  cases d with
  | none => rfl
  | some e => exact Array.getElem?_setIfInBounds_ne (by intro he; exact h (by rw [he]))
theorem put_same (a : Act) (t : Nat) (v : Value) (h : t < a.tmps.size) : (a.put (some t) v).tmps[t]? = some v := by
  simp [Act.put, h]
theorem fill_defers (vs : Nat → Value) : ∀ (l : List Oper) (k : Nat) (a : Act), (fill vs k l a).defers = a.defers
  | [], _, _ => rfl
  | o :: l, k, a => by simp only [fill]; rw [fill_defers vs l, put_defers]
theorem fill_size (vs : Nat → Value) : ∀ (l : List Oper) (k : Nat) (a : Act), (fill vs k l a).tmps.size = a.tmps.size
  | [], _, _ => rfl
  | o :: l, k, a => by simp only [fill]; rw [fill_size vs l, put_size]
theorem fill_other (vs : Nat → Value) (t : Nat) : ∀ (l : List Oper) (k : Nat) (a : Act), (∀ o ∈ l, o.dst ≠ some t) → (fill vs k l a).tmps[t]? = a.tmps[t]?
  | [], _, _, _ => rfl
  | o :: l, k, a, h => by
    simp only [fill]
    rw [fill_other vs t l _ _ (fun o' ho' => h o' (List.mem_cons_of_mem _ ho')), put_other _ _ _ _ (h o (List.mem_cons_self ..))]
theorem fill_at (vs : Nat → Value) (t : Nat) : ∀ (l : List Oper) (k : Nat) (a : Act) (j : Nat) (o : Oper), l[j]? = some o → o.dst = some t → t < a.tmps.size →
    (∀ j' o', l[j']? = some o' → j' ≠ j → o'.dst ≠ some t) → (fill vs k l a).tmps[t]? = some (vs (k + j))
  | [], _, _, j, o, h, _, _, _ => by simp at h
  | o0 :: l, k, a, 0, o, h, hd, ht, hdist => by
    simp only [List.getElem?_cons_zero, Option.some.injEq] at h
    subst h
    simp only [fill]
    rw [fill_other vs t l _ _ (fun o' ho' => by
      obtain ⟨j', hj'⟩ := List.getElem?_of_mem ho'
      exact hdist (j' + 1) o' (by simpa using hj') (by omega)), hd, put_same _ _ _ ht]
    rfl
  | o0 :: l, k, a, j + 1, o, h, hd, ht, hdist => by
    simp only [fill]
    rw [fill_at vs t l (k + 1) _ j o (by simpa using h) hd (by rw [put_size]; exact ht) (fun j' o' h1 h2 => hdist (j' + 1) o' (by simpa using h1) (by omega))]
    congr 2; omega

/-- What stands behind operation i. -/
structure FPost (a0 : Act) (S : World → Prop) (R : World → World → Prop) (f : Fact) (i : Nat) (d : Option Tmp) (vs : Nat → Value) (w : World) (a' : Act) (w' : World) : Prop where
  defers : a'.defers = a0.defers
  fact : f.at (fun j => if j = i then got a' d else vs j) w'
  s : S w'
  r : R w w'
section
variable (P : Program) (ops : Array Oper) (a0 : Act) (S : World → Prop) (R : World → World → Prop) (F : Nat → Fact)
/-- Operation i, with what it waits for behind it, shows its fact. -/
def FStep (i : Nat) (o : Oper) : Prop := ∀ (vs : Nat → Value) (w : World), S w → (∀ e ∈ o.after, Region.binds .any e = true → (F e.on).at vs w) →
  wpList P ops (fun ex a' w' => match ex with
    | .normal => FPost a0 S R (F i) i o.dst vs w a' w'
    | _ => False) [o] (fill vs 0 (ops.toList.take i) a0) w
def FSteps : Nat → List Oper → Prop
  | _, [] => True
  | k, o :: rest => FStep P ops a0 S R F k o ∧ FSteps (k + 1) rest
theorem FSteps.get : ∀ (l : List Oper) (k : Nat), FSteps P ops a0 S R F k l → ∀ j o, l[j]? = some o → FStep P ops a0 S R F (k + j) o
  | [], _, _, j, o, h => by simp at h
  | o0 :: l, k, hs, 0, o, h => by simp only [List.getElem?_cons_zero, Option.some.injEq] at h; subst h; exact hs.1
  | o0 :: l, k, hs, j + 1, o, h => by
    have := FSteps.get l (k + 1) hs.2 j o (by simpa using h)
    rwa [show k + 1 + j = k + (j + 1) by omega] at this
end
/-- Operation k stands behind operation i, by n steps at most. -/
def waitsT (ops : Array Oper) : Nat → Nat → Nat → Bool
  | 0, k, i => k == i
  | n + 1, k, i => k == i || (match ops[k]? with
    | some o => o.after.any fun e => Region.binds .any e && waitsT ops n e.on i
    | none => false)
def isSelect : Op → Bool
  | .select _ _ => true
  | _ => false
/-- What the law asks of the region's text. -/
def chkOne (ops : Array Oper) (ix : List (List Nat)) (i : Nat) : Bool :=
  match ops[i]? with
  | none => true
  | some o => (o.after.all fun e => !Region.binds .any e || decide (e.on < i)) && !isSelect o.op &&
    ((o.looksAt ops).all fun t => (List.range ops.size).all fun j => (((ops[j]?).bind (·.dst)) != some t) || (Region.waitsFor .any ops i j) || (decide (i ≤ j) && waitsT ops 30 j i)) &&
    ((List.range ops.size).all fun j => j == i || o.dst.isNone || (((ops[j]?).bind (·.dst)) != o.dst)) &&
    ((ix.getD i []).all fun j => j == i || Region.waitsFor .any ops i j)
def chk (ops : Array Oper) (ix : List (List Nat)) : Bool := (List.range ops.size).all (chkOne ops ix)
structure Chk (ops : Array Oper) (ix : List (List Nat)) : Prop where
  back : ∀ (i : Nat) (o : Oper), ops[i]? = some o → ∀ e ∈ o.after, Region.binds .any e = true → e.on < i
  sel : ∀ (i : Nat) (o : Oper), ops[i]? = some o → ∀ cs b, o.op ≠ .select cs b
  looks : ∀ (i : Nat) (o : Oper), ops[i]? = some o → ∀ t ∈ o.looksAt ops, ∀ (j : Nat) (oj : Oper), ops[j]? = some oj → oj.dst = some t → (∃ e ∈ o.after, Region.binds .any e = true ∧ e.on = j) ∨ (i ≤ j ∧ waitsT ops 30 j i = true)
  dist : ∀ (i : Nat) (o : Oper), ops[i]? = some o → ∀ (j : Nat) (oj : Oper), ops[j]? = some oj → j ≠ i → ∀ t, o.dst = some t → oj.dst ≠ some t
  ixs : ∀ (i : Nat) (o : Oper), ops[i]? = some o → ∀ j ∈ ix.getD i [], j = i ∨ ∃ e ∈ o.after, Region.binds .any e = true ∧ e.on = j
theorem chk_spec {ops : Array Oper} {ix : List (List Nat)} (h : chk ops ix = true) : Chk ops ix := by
  have h1 : ∀ i o, ops[i]? = some o → chkOne ops ix i = true := fun i o ho =>
    List.all_eq_true.1 h i (List.mem_range.2 (Array.getElem?_eq_some_iff.1 ho).1)
  have wf : ∀ i o j, ops[i]? = some o → Region.waitsFor .any ops i j = true → ∃ e ∈ o.after, Region.binds .any e = true ∧ e.on = j := fun i o j ho hw => by
    obtain ⟨oj, hoj, e, he, hb, hon⟩ := Region.waitsFor_spec hw
    have : oj = o := Option.some.inj (hoj.symm.trans ho)
    subst this
    exact ⟨e, he, hb, hon⟩
  have h2 : ∀ i o, ops[i]? = some o → (((o.after.all fun e => !Region.binds .any e || decide (e.on < i)) = true ∧ isSelect o.op = false) ∧
    ((o.looksAt ops).all fun t => (List.range ops.size).all fun j => (((ops[j]?).bind (·.dst)) != some t) || (Region.waitsFor .any ops i j) || (decide (i ≤ j) && waitsT ops 30 j i)) = true) ∧
    ((List.range ops.size).all fun j => j == i || o.dst.isNone || (((ops[j]?).bind (·.dst)) != o.dst)) = true ∧
    ((ix.getD i []).all fun j => j == i || Region.waitsFor .any ops i j) = true := fun i o ho => by
    have := h1 i o ho
    unfold chkOne at this
    simp only [ho, Bool.and_eq_true, Bool.not_eq_true'] at this
    exact ⟨⟨this.1.1.1, this.1.1.2⟩, this.1.2, this.2⟩
  refine ⟨fun i o ho e he hb => ?_, fun i o ho cs b hs => ?_, fun i o ho t ht j oj hj hd => ?_, fun i o ho j oj hj hne t ht htj => ?_, fun i o ho j hj => ?_⟩
  · have := Array.all_eq_true'.1 (h2 i o ho).1.1.1 e he
    simpa [hb] using this
  · have := (h2 i o ho).1.1.2
    rw [hs] at this
    simp [isSelect] at this
  · have := List.all_eq_true.1 (List.all_eq_true.1 (h2 i o ho).1.2 t ht) j (List.mem_range.2 (Array.getElem?_eq_some_iff.1 hj).1)
    simp only [hj, Option.bind_some, hd, Bool.or_eq_true, bne_self_eq_false, Bool.false_eq_true, false_or, Bool.and_eq_true, decide_eq_true_eq] at this
    exact this.imp (wf i o j ho) id
  · have := List.all_eq_true.1 (h2 i o ho).2.1 j (List.mem_range.2 (Array.getElem?_eq_some_iff.1 hj).1)
    simp [hj, ht, htj, hne] at this
  · have := List.all_eq_true.1 (h2 i o ho).2.2 j hj
    simp only [Bool.or_eq_true, beq_iff_eq] at this
    exact this.imp id (wf i o j ho)

section
variable {P : Program} {ops : Array Oper} {a0 : Act} {S : World → Prop} {R : World → World → Prop} {ix : List (List Nat)} {p : Nat → (Nat → Value) → World → Prop} {Q : Exit → Act → World → Prop}
structure FInv (ops : Array Oper) (a0 : Act) (S : World → Prop) (F : Nat → Fact) (listed : Array Bool) (vs : Nat → Value) (a : Act) (w : World) : Prop where
  lsize : listed.size = ops.size
  closed : ∀ (j : Nat) (oj : Oper), ops[j]? = some oj → listed.getD j false = true → ∀ e ∈ oj.after, Region.binds .any e = true → listed.getD e.on false = true
  size : a.tmps.size = a0.tmps.size
  defers : a.defers = a0.defers
  slot : ∀ (j : Nat) (o : Oper) (d : Nat), ops[j]? = some o → listed.getD j false = true → o.dst = some d → d < a0.tmps.size → a.tmps[d]? = some (vs j)
  other : ∀ (t : Nat), (∀ (j : Nat) (o : Oper), ops[j]? = some o → listed.getD j false = true → o.dst ≠ some t) → a.tmps[t]? = a0.tmps[t]?
  s : S w
  facts : ∀ (j : Nat) (o : Oper), ops[j]? = some o → listed.getD j false = true → (F j).at vs w
theorem FInv.filled {F : Nat → Fact} {listed : Array Bool} {vs : Nat → Value} {a : Act} {w : World} (hc : Chk ops ix) (h : FInv ops a0 S F listed vs a w)
    (hall : ∀ j, j < ops.size → listed.getD j false = true) : a = fill vs 0 ops.toList a0 := by
  have ht : ∀ t : Nat, a.tmps[t]? = (fill vs 0 ops.toList a0).tmps[t]? := fun t => by
    by_cases hx : ∃ (j : Nat) (o : Oper), ops[j]? = some o ∧ o.dst = some t
    · obtain ⟨j, o, ho, hd⟩ := hx
      have hj := (Array.getElem?_eq_some_iff.1 ho).1
      by_cases hlt : t < a0.tmps.size
      · rw [h.slot j o t ho (hall j hj) hd hlt, fill_at vs t ops.toList 0 a0 j o (by simpa using ho) hd hlt (fun j' o' h1 h2 => hc.dist j o ho j' o' (by simpa using h1) h2 t hd)]
        simp
      · rw [Array.getElem?_eq_none (by rw [h.size]; omega), Array.getElem?_eq_none (by rw [fill_size]; omega)]
    · rw [h.other t (fun j o ho _ hd => hx ⟨j, o, ho, hd⟩), fill_other vs t _ _ _ (fun o ho hd => by
        obtain ⟨j, hj⟩ := List.getElem?_of_mem ho
        exact hx ⟨j, o, by simpa using hj, hd⟩)]
  have h1 : a.tmps = (fill vs 0 ops.toList a0).tmps := Array.ext_getElem? ht
  have h2 : a.defers = (fill vs 0 ops.toList a0).defers := by rw [fill_defers, h.defers]
  cases a; cases hf : fill vs 0 ops.toList a0
  rw [hf] at h1 h2
  simp_all
theorem FInv.waits {F : Nat → Fact} {listed : Array Bool} {vs : Nat → Value} {a : Act} {w : World} (h : FInv ops a0 S F listed vs a w) {i : Nat} (hun : listed.getD i true = false) :
    ∀ (n k : Nat), waitsT ops n k i = true → listed.getD k true = false
  | 0, k, hw => by
    have : k = i := by simpa [waitsT] using hw
    rw [this]; exact hun
  | n + 1, k, hw => by
    unfold waitsT at hw
    rw [Bool.or_eq_true] at hw
    rcases hw with hw | hw
    · have : k = i := by simpa using hw
      rw [this]; exact hun
    · cases ho : ops[k]? with
      | none => simp [ho] at hw
      | some o =>
        simp only [ho] at hw
        obtain ⟨e, he, hb⟩ := Array.any_eq_true'.1 hw
        simp only [Bool.and_eq_true] at hb
        have h1 := FInv.waits h hun n e.on hb.2
        have hlt := (Array.getElem?_eq_some_iff.1 ho).1
        cases hl : listed.getD k false with
        | false => exact getD_in (by rw [h.lsize]; exact hlt) hl
        | true =>
          have := h.closed k o ho hl e he hb.1
          rw [getD_both h1] at this
          cases this
/-- Where an operation looks, the state at hand and the state filled in order are alike. -/
theorem FInv.alike {F : Nat → Fact} {listed : Array Bool} {vs : Nat → Value} {a : Act} {w : World} (hc : Chk ops ix) (h : FInv ops a0 S F listed vs a w)
    {i : Nat} {o : Oper} (ho : ops[i]? = some o) (hd : ∀ e ∈ o.after, Region.binds .any e = true → listed.getD e.on false = true) (hun : listed.getD i true = false) (t : Nat) (ht : t ∈ o.looksAt ops) :
    a.tmps[t]? = (fill vs 0 (ops.toList.take i) a0).tmps[t]? := by
  by_cases hx : ∃ (j : Nat) (oj : Oper), ops[j]? = some oj ∧ oj.dst = some t
  · obtain ⟨j, oj, hj, hdj⟩ := hx
    rcases hc.looks i o ho t ht j oj hj hdj with ⟨e, he, hb, rfl⟩ | ⟨hij, hwt⟩
    case inr =>
      have hnl := h.waits hun 30 j hwt
      rw [h.other t (fun j' oj' hj' hl' hd' => by
        by_cases hjj : j' = j
        · subst hjj; rw [getD_both hnl] at hl'; cases hl'
        · exact hc.dist j oj hj j' oj' hj' hjj t hdj hd')]
      rw [fill_other vs t _ _ _ (fun oj' hoj' hdj' => by
        obtain ⟨j', hj'⟩ := List.getElem?_of_mem hoj'
        have hlt' : j' < i := by
          rcases Nat.lt_or_ge j' i with hh | hh
          · exact hh
          · rw [List.getElem?_take_eq_none hh] at hj'; cases hj'
        rw [List.getElem?_take_of_lt hlt'] at hj'
        exact hc.dist j oj hj j' oj' (by simpa using hj') (by omega) t hdj hdj')]
    have hlt := hc.back i o ho e he hb
    by_cases hs : t < a0.tmps.size
    · rw [h.slot _ oj t hj (hd e he hb) hdj hs, fill_at vs t _ 0 a0 e.on oj (by rw [List.getElem?_take_of_lt hlt]; simpa using hj) hdj hs (fun j' o' h1 h2 =>
        hc.dist e.on oj hj j' o' (by
          have : j' < i := by
            rcases Nat.lt_or_ge j' i with hh | hh
            · exact hh
            · rw [List.getElem?_take_eq_none hh] at h1; cases h1
          rw [List.getElem?_take_of_lt this] at h1; simpa using h1) h2 t hdj)]
      simp
    · rw [Array.getElem?_eq_none (by rw [h.size]; omega), Array.getElem?_eq_none (by rw [fill_size]; omega)]
  · rw [h.other t (fun j oj hj _ hdj => hx ⟨j, oj, hj, hdj⟩), fill_other vs t _ _ _ (fun oj hoj hdj => by
      obtain ⟨j, hj⟩ := List.getElem?_of_mem (List.mem_of_mem_take hoj)
      exact hx ⟨j, oj, by simpa using hj, hdj⟩)]
theorem facts_go (hc : Chk ops ix) (hR : ∀ j vs w w', R w w' → (Fact.mk (ix.getD j []) (p j)).at vs w → (Fact.mk (ix.getD j []) (p j)).at vs w')
    (hs : FSteps P ops a0 S R (fun i => ⟨ix.getD i [], p i⟩) 0 ops.toList)
    (hQ : ∀ vs w', (∀ j, j < ops.size → (Fact.mk (ix.getD j []) (p j)).at vs w') → S w' → Q .normal (fill vs 0 ops.toList a0) w') :
    ∀ (fuel : Nat) (listed : Array Bool) (U : List Nat) (vs : Nat → Value) (a : Act) (w : World), (∀ i, i < ops.size → listed.getD i true = false → i ∈ U) → U.length ≤ fuel →
      FInv ops a0 S (fun i => ⟨ix.getD i [], p i⟩) listed vs a w → wpAny P .any ops Q fuel listed a w := by
  have fin : ∀ (listed : Array Bool) (vs : Nat → Value) (a : Act) (w : World), FInv ops a0 S (fun i => ⟨ix.getD i [], p i⟩) listed vs a w → Region.ready .any ops listed = [] → Q .normal a w := fun listed vs a w hi hr => by
    have hall : ∀ n j, j < n → j < ops.size → listed.getD j false = true := fun n => by
      induction n with
      | zero => intro j hj; omega
      | succ n ih =>
        intro j hj hlt
        by_cases hjn : j < n
        · exact ih j hjn hlt
        · have hjn' : j = n := by omega
          subst hjn'
          cases hl : listed.getD j false with
          | true => rfl
          | false =>
            have hun := getD_in (by rw [hi.lsize]; exact hlt) hl
            have ho : ops[j]? = some ops[j] := Array.getElem?_eq_getElem hlt
            have : j ∈ Region.ready .any ops listed := mem_ready.2 ⟨hun, ops[j], ho, fun e he hb => ih e.on (hc.back j _ ho e he hb) (by have := hc.back j _ ho e he hb; omega)⟩
            rw [hr] at this
            cases this
    rw [hi.filled hc (fun j hj => hall (j + 1) j (by omega) hj)]
    exact hQ vs w (fun j hj => hi.facts j ops[j] (Array.getElem?_eq_getElem hj) (hall (j + 1) j (by omega) hj)) hi.s
  intro fuel
  induction fuel with
  | zero =>
    intro listed U vs a w hU hl hi
    have hr : Region.ready .any ops listed = [] := by
      rcases hx : Region.ready .any ops listed with _ | ⟨i, l⟩
      · rfl
      · have hm : i ∈ Region.ready .any ops listed := by rw [hx]; exact List.mem_cons_self ..
        obtain ⟨hun, o, ho, _⟩ := mem_ready.1 hm
        have := hU i (Array.getElem?_eq_some_iff.1 ho).1 hun
        have hU0 : U = [] := List.length_eq_zero_iff.1 (by omega)
        rw [hU0] at this
        cases this
    exact ⟨hr, fin listed vs a w hi hr⟩
  | succ fuel ih =>
    intro listed U vs a w hU hl hi
    refine ⟨fin listed vs a w hi, fun i hir => ?_⟩
    obtain ⟨hun, o, ho, hall⟩ := mem_ready.1 hir
    have hlt := (Array.getElem?_eq_some_iff.1 ho).1
    have hst := FSteps.get P ops a0 S R _ ops.toList 0 hs i o (by simpa using ho)
    rw [Nat.zero_add] at hst
    have hstep := hst vs w hi.s (fun e he hb => hi.facts e.on _ (Array.getElem?_eq_getElem (by have := hc.back i o ho e he hb; omega)) (hall e he hb))
    have hal := hi.alike hc ho hall hun
    have hex : execOp a.eval o = execOp (fill vs 0 (ops.toList.take i) a0).eval o := execOp_congr o (hc.sel i o ho) fun x hx => by
      cases x with
      | tmp t =>
        have ht : t ∈ o.looksAt ops := List.mem_append_left _ (List.mem_filterMap.2 ⟨.tmp t, by simpa using hx, rfl⟩)
        have := hal t ht
        simp only [Act.eval, Array.getD_eq_getD_getElem?, this]
      | _ => rfl
    have hwa : Region.wanted o (yielded ops a.tmps) = Region.wanted o (yielded ops (fill vs 0 (ops.toList.take i) a0).tmps) := by
      unfold Region.wanted
      cases hg : o.guard with
      | none => rfl
      | some g =>
        obtain ⟨g, want⟩ := g
        have : yielded ops a.tmps g = yielded ops (fill vs 0 (ops.toList.take i) a0).tmps g := by
          unfold yielded
          cases hgd : (ops[g]?).bind (·.dst) with
          | none => rfl
          | some t =>
            have ht : t ∈ o.looksAt ops := List.mem_append_right _ (by simp [hg, hgd])
            simp only [Option.bind_some, hal t ht]
        simp only [this]
    -- one operation's value lands
    have land : ∀ (u : Value) (w' : World), FPost a0 S R ⟨ix.getD i [], p i⟩ i o.dst vs w ((fill vs 0 (ops.toList.take i) a0).put o.dst u) w' →
        wpAny P .any ops Q fuel (listed.setIfInBounds i true) (a.put o.dst u) w' := fun u w' ⟨_, hf, hS, hRw⟩ => by
      refine ih _ (U.erase i) (fun j => if j = i then got ((fill vs 0 (ops.toList.take i) a0).put o.dst u) o.dst else vs j) _ _ (fun j hj hjl => ?_) ?_ ⟨?_, ?_, ?_, ?_, ?_, ?_, hS, ?_⟩
      · by_cases hij : i = j
        · subst hij
          have h0 : i < listed.size := by rw [hi.lsize]; exact hlt
          simp [h0] at hjl
        · rw [getD_set_ne true hij] at hjl
          exact (List.mem_erase_of_ne (Ne.symm hij)).2 (hU j hj hjl)
      · rw [List.length_erase_of_mem (hU i hlt hun)]; omega
      · simp [hi.lsize]
      · intro j oj hj hl' e he hb
        by_cases hij : i = j
        · subst hij
          have : oj = o := Option.some.inj (hj.symm.trans ho)
          subst this
          exact getD_set_true (hall e he hb)
        · rw [getD_set_ne false hij] at hl'
          exact getD_set_true (hi.closed j oj hj hl' e he hb)
      · rw [put_size, hi.size]
      · rw [put_defers, hi.defers]
      · intro j oj d hj hl' hd hds
        by_cases hij : i = j
        · subst hij
          have : oj = o := Option.some.inj (hj.symm.trans ho)
          subst this
          simp only [if_true, hd, got]
          rw [put_same _ _ _ (by rw [hi.size]; exact hds)]
          have h9 := put_same (fill vs 0 (ops.toList.take i) a0) d u (by rw [fill_size]; exact hds)
          simp only [Array.getD_eq_getD_getElem?, h9, Option.getD_some]
        · rw [getD_set_ne false hij] at hl'
          rw [put_other _ _ _ _ (fun hdo => hc.dist j oj hj i o ho hij d hd hdo), hi.slot j oj d hj hl' hd hds]
          simp [Ne.symm hij]
      · intro t ht
        have h1 : o.dst ≠ some t := ht i o ho (by
          have h0 : i < listed.size := by rw [hi.lsize]; exact hlt
          simp [h0])
        rw [put_other _ _ _ _ h1]
        exact hi.other t fun j oj hj hl' => ht j oj hj (getD_set_true hl')
      · intro j oj hj hl'
        by_cases hij : i = j
        · subst hij; exact hf
        · rw [getD_set_ne false hij] at hl'
          refine Fact.at_congr _ (fun k hk => ?_) (hR j vs w w' hRw (hi.facts j oj hj hl'))
          have hki : k ≠ i := fun hki => by
            subst hki
            rcases hc.ixs j oj hj k hk with h1 | ⟨e, he, hb, rfl⟩
            · exact hij h1
            · have := hi.closed j oj hj hl' e he hb
              rw [getD_both hun] at this
              cases this
          simp [hki]
    unfold wpOp
    simp only [ho]
    simp only [wpList] at hstep
    rw [hwa]
    split
    · rename_i hw
      simp only [hw, if_true] at hstep
      rcases hstep with hstep | ⟨_, _, _, hf⟩
      case inr => exact hf.elim
      refine .inl ?_
      unfold Oper.wp at *
      rw [hex]
      generalize (execOp (fill vs 0 (ops.toList.take i) a0).eval o).run P w = r at *
      cases r with
      | ok n w' =>
        cases n <;> simp only [Oper.upon] at hstep ⊢
        case value u => exact land u w' hstep
        case skip => exact land _ w' hstep
        case defer d =>
          have := hstep.1
          rw [put_defers, fill_defers] at this
          exact absurd (congrArg List.length this) (by simp)
        case enter f args =>
          refine Calls.mono hstep fun e w'' he => ?_
          cases e with
          | returned u => exact land u w'' he
          | panicked c => exact he.elim
          | outgrown => obtain ⟨_, _, hf⟩ := he; exact hf.elim
        case row row args => exact Rows.mono hstep fun u w'' he => land u w'' he
      | halt x w' =>
        cases x <;> simp only [Oper.upon] at hstep ⊢
    · rename_i hw
      simp only [hw, Bool.false_eq_true, if_false] at hstep
      exact land _ w hstep
/-- A region that draws its order, by facts. -/
theorem wp_region_facts {id : Nat} {a : Act} {w : World} (ix : List (List Nat)) (S : World → Prop) (R : World → World → Prop) (p : Nat → (Nat → Value) → World → Prop)
    (hm : P.follows .mixedOrders = true) (hc : chk ops ix = true) (hS : S w.drew)
    (hR : ∀ j vs w w', R w w' → (Fact.mk (ix.getD j []) (p j)).at vs w → (Fact.mk (ix.getD j []) (p j)).at vs w')
    (hs : FSteps P ops a S R (fun i => ⟨ix.getD i [], p i⟩) 0 ops.toList)
    (hQ : ∀ vs w', (∀ j, j < ops.size → (Fact.mk (ix.getD j []) (p j)).at vs w') → S w' → Q .normal (fill vs 0 ops.toList a) w') : (Code.region id ops true).wp P Q a w := by
  refine wp_region_any hm (facts_go (chk_spec hc) hR hs hQ ops.size _ (List.range ops.size) (fun _ => undef) a _ (fun i hi _ => List.mem_range.2 hi) (by simp) ⟨by simp, ?_, rfl, rfl, ?_, fun _ _ => rfl, hS, ?_⟩)
  · intro j oj _ hl; rw [getD_replicate_false] at hl; cases hl
  · intro j o d _ hl; rw [getD_replicate_false] at hl; cases hl
  · intro j o _ hl; rw [getD_replicate_false] at hl; cases hl
end
end Go.Cour
