import Derived.WalkKit
import Derived.RowKit3
import Derived.Deep.LoopGhost
import Derived.Deep.Draws
import Derived.Laws.Rows
import Derived.Outline
import Derived.WalkSpells
import Derived.WalkLawsBesides
import Derived.Deep.OwnRows
import Derived.Laws.AppendOwnNone
import Derived.Laws.CopyOwn
import Derived.Great.BuildSlice
import Derived.Laws.StructEq
import Derived.Laws.Cells
import Derived.LaidEql
import Derived.Test.YtenjpmegnjdobaaDoorProg
import Derived.Test.YtenjpmegnjdobaaDoorRows
import Derived.ProofKit
import Derived.LaidMore
import Derived.LaidLaws
import Derived.OpenShut
import Derived.StillTailTactics
import Derived.Deep.QuietTactic
import Derived.BigQuiet
import Derived.Laws.Closers25b
import Derived.Laws.BitsLemmas
set_option linter.unusedSimpArgs false
set_option linter.unusedVariables false
/- Blocks of memory that are known whole, and how they stand behind stores, new blocks, appends. -/
namespace Go.Cour
open Go.RowKit
/-- A fact kept from the walk. -/
structure Hd (p : Prop) : Prop where
  mk ::
  out : p
theorem hid {p : Prop} (h : p) : Hd p := ⟨h⟩

/-- Block g of w is a row of cells cs of type t, none of them frozen. -/
def Blk (w : World) (g : Nat) (t : TypeId) (cs : List Value) : Prop := w.heap[g]? = some (.cells cs.toArray t (0, 0))

section
variable {w w1 : World} {g g' : Nat} {t t' : TypeId} {cs cs' : List Value}
theorem Blk.lt (h : Blk w g t cs) : g < w.heap.size := (Array.getElem?_eq_some_iff.1 h).1
theorem Blk.cell (h : Blk w g t cs) (i : Nat) : w.cell? ⟨g, i, none⟩ = cs[i]? := by
  unfold Blk at h
  simp [World.cell?, h]
theorem Blk.cellD (h : Blk w g t cs) (i : Nat) (hi : i < cs.length) (d : Value) : w.cell? ⟨g, i, none⟩ = some (cs.getD i d) := by
  rw [h.cell i, List.getElem?_eq_getElem hi]; simp [List.getD, hi]
theorem Blk.frozen (h : Blk w g t cs) (i : Nat) : w.frozen? ⟨g, i, none⟩ = false := by
  unfold Blk at h
  simp [World.frozen?, h]
theorem Blk.set (h : Blk w g t cs) (i : Nat) (v : Value) : Blk (w.setCell ⟨g, i, none⟩ v) g t (cs.set i v) := by
  unfold Blk at *
  rw [heap_setCell_same w g i _ t v h]; simp
theorem Blk.setOther (h : Blk w g t cs) {a : Addr} (ha : g ≠ a.block) (v : Value) : Blk (w.setCell a v) g t cs :=
  (heap_setCell_other w a g v ha).trans h
theorem Blk.alloc (h : Blk w g t cs) (o : Obj) : Blk (w.alloc o) g t cs := (Below.heap_alloc w o g h.lt).trans h
theorem Blk.new (w : World) (t : TypeId) (cs : List Value) : Blk (w.alloc (.cells cs.toArray t)) w.heap.size t cs := heap_alloc_new w _
theorem Blk.drewN (h : Blk w g t cs) (n : Nat) : Blk (w.drewN n) g t cs := h
theorem Blk.drew (h : Blk w g t cs) : Blk w.drew g t cs := h
theorem Blk.below {B : Nat} (h : Blk w g t cs) (hb : Below B w w1) (hg : g < B) : Blk w1 g t cs := (hb.block g hg).trans h
theorem Blk.belowAll (h : Blk w g t cs) (hb : Below w.heap.size w w1) : Blk w1 g t cs := h.below hb h.lt
theorem Blk.grown {row : Option Nat} (h : Blk w g t cs) (hg : w.grownBy w1 row) (hne : some g ≠ row) : Blk w1 g t cs := (hg.block g h.lt hne).trans h
theorem Blk.setRow (h : Blk w g t cs) (cs' : List Value) : Blk (w.setRow g cs'.toArray) g t cs' := setRow_heap w g _ _ t _ h
theorem Blk.setRowOther (h : Blk w g t cs) (hne : g ≠ g') (a : Array Value) : Blk (w.setRow g' a) g t cs := (setRow_other w g' g a hne).trans h
theorem Blk.ne (h : Blk w g t cs) (h' : Blk w g' t' cs') (hne : t ≠ t') : g ≠ g' := by
  rintro rfl
  unfold Blk at h h'
  rw [h] at h'
  injection h' with h'
  injection h' with _ h'
  exact hne h'
end

theorem below_setRow {B : Nat} {w w1 : World} (h : Below B w w1) {g : Nat} (hg : B ≤ g) (cs : Array Value) : Below B w (w1.setRow g cs) :=
  h.trans ⟨rfl, rfl, rfl, by simp, fun k hk => setRow_other w1 g k cs (by omega)⟩
theorem below_drewN {B : Nat} {w w1 : World} (h : Below B w w1) (n : Nat) : Below B w (w1.drewN n) := ⟨h.os, h.tape, h.output, h.size, h.block⟩
theorem below_then {B : Nat} {w w1 w2 : World} (h : Below B w w1) (hB : B ≤ w1.heap.size) (k : Below w1.heap.size w1 w2) : Below B w w2 :=
  h.trans (k.mono hB)

/-- Numbers of one kind as cells. -/
def ints (k : IntKind) (xs : List Int) : List Value := xs.map (Value.int k)
@[simp] theorem ints_length (k : IntKind) (xs : List Int) : (ints k xs).length = xs.length := by simp [ints]
theorem ints_set (k : IntKind) (xs : List Int) (i : Nat) (x : Int) : (ints k xs).set i (.int k x) = ints k (xs.set i x) := by simp [ints, List.map_set]
/-- Element i of a list of numbers. -/
def rd (xs : List Int) (i : Nat) : Int := xs.getD i 0
theorem ints_get (k : IntKind) (xs : List Int) (i : Nat) (h : i < xs.length) : (ints k xs)[i]? = some (.int k (rd xs i)) := by
  simp [ints, rd, h]
theorem ints_one (k : IntKind) (xs : List Int) : (ints k xs).toArray.all (·.oneCell') = true := by
  simp [ints, Value.oneCell']
theorem ints_append (k : IntKind) (xs ys : List Int) : ints k (xs ++ ys) = ints k xs ++ ints k ys := by simp [ints]

/-- A block of numbers. -/
abbrev BlkI (w : World) (g : Nat) (t : TypeId) (k : IntKind) (xs : List Int) : Prop := Blk w g t (ints k xs)
section
variable {w w1 : World} {g : Nat} {t : TypeId} {k : IntKind} {xs : List Int}
theorem Blk.cellI (h : Blk w g t (ints k xs)) (i : Nat) (hi : i < xs.length) : w.cell? ⟨g, i, none⟩ = some (.int k (rd xs i)) := by
  rw [h.cell i, ints_get k xs i hi]
theorem Blk.setI (h : Blk w g t (ints k xs)) (i : Nat) (x : Int) : Blk (w.setCell ⟨g, i, none⟩ (.int k x)) g t (ints k (xs.set i x)) := by
  have := h.set i (.int k x)
  rwa [ints_set] at this
end
/-- A whole array read out of its block. -/
theorem load_blk {P : Program} {ops : Array Oper} {rest : List Oper} {o : Oper} {a : Act} {w : World} {Q : Exit → Act → World → Prop} (hgd : o.guard = none) (ty : TypeId) (x : Operand) (ho : o.op = .load ty x)
    (g : Nat) (hx : a.eval x = .pointer (some ⟨g, 0, none⟩)) (t : TypeId) (cs : List Value) (hg : Blk w g t cs) (n : Nat) (e : TypeId) (hu : P.underlying ty = some (.array n e)) (hl : cs.length = n)
    (hi : (P.info? ty).map (·.size) = some n)
    (h : wpList P ops Q rest (a.put o.dst (.agg cs.toArray)) w) : wpList P ops Q (o :: rest) a w :=
  wpList_load_row hgd ty x ho g hx t cs.toArray (0, 0) _ hg hu rfl (by rw [hi]; simp [hl]) h
/-- A whole array stored into its block. -/
theorem store_blk {P : Program} {ops : Array Oper} {rest : List Oper} {o : Oper} {a : Act} {w : World} {Q : Exit → Act → World → Prop} (hgd : o.guard = none) (ty : TypeId) (x y : Operand) (ho : o.op = .store ty x y)
    (g : Nat) (cs : List Value) (hx : a.eval x = .pointer (some ⟨g, 0, none⟩)) (hy : a.eval y = .agg cs.toArray)
    (t : TypeId) (old : List Value) (hg : Blk w g t old) (n : Nat) (hi : (P.info? ty).map (·.size) = some n) (hl : cs.length = n)
    (hold : old.length = n) (h1 : cs.toArray.all (·.oneCell') = true)
    (h : wpList P ops Q rest (a.put o.dst undef) (w.setRow g cs.toArray)) : wpList P ops Q (o :: rest) a w :=
  wpList_store_row hgd ty x y ho g cs.toArray hx hy t old.toArray hg (by rw [hi]; simp [hl]) (by simp [hl, hold]) h1 h
theorem Blk.new' (w : World) (t : TypeId) (cs : List Value) (n : Nat) (h : w.heap.size = n) : Blk (w.alloc (.cells cs.toArray t)) n t cs := by subst h; exact Blk.new w t cs
theorem results_blk {P : Program} {fn : Func} {p : Tmp} {ty : TypeId} (h : fn.results = #[.cell p ty]) (tmps : Array Value) (w : World) (g : Nat) (t : TypeId) (cs : List Value) (n : Nat) (e : TypeId)
    (hp : tmps.getD p undef = .pointer (some ⟨g, 0, none⟩)) (hg : Blk w g t cs)
    (hu : P.underlying ty = some (.array n e)) (hl : cs.length = n) (hi : (P.info? ty).map (·.size) = some n) :
    (results fn tmps).run P w = .ok (.agg cs.toArray) w :=
  results_cell_row h tmps w g t cs.toArray (0, 0) _ hp hg hu rfl (by rw [hi]; simp [hl])
/-- w' is w but for the cells of block g (and for draws). -/
structure Only (g : Nat) (w w' : World) : Prop where
  os : w'.os = w.os
  tape : w'.tape = w.tape
  output : w'.output = w.output
  size : w'.heap.size = w.heap.size
  block : ∀ k, k ≠ g → w'.heap[k]? = w.heap[k]?
theorem Only.refl (g : Nat) (w : World) : Only g w w := ⟨rfl, rfl, rfl, rfl, fun _ _ => rfl⟩
theorem Only.trans {g : Nat} {a b c : World} (h : Only g a b) (k : Only g b c) : Only g a c :=
  ⟨k.os.trans h.os, k.tape.trans h.tape, k.output.trans h.output, k.size.trans h.size, fun i hi => (k.block i hi).trans (h.block i hi)⟩
theorem Only.setCell {g : Nat} {a w : World} (h : Only g a w) (i : Nat) (v : Value) : Only g a (w.setCell ⟨g, i, none⟩ v) :=
  h.trans ⟨rfl, rfl, rfl, by simp [World.setCell], fun k hk => Below.heap_setCell _ _ _ _ hk⟩
theorem Only.drew {g : Nat} {a w : World} (h : Only g a w) : Only g a w.drew := ⟨h.os, h.tape, h.output, h.size, h.block⟩
theorem Only.drewN {g : Nat} {a w : World} (h : Only g a w) (n : Nat) : Only g a (w.drewN n) := ⟨h.os, h.tape, h.output, h.size, h.block⟩
theorem Only.setRow {g : Nat} {a w : World} (h : Only g a w) (cs : Array Value) : Only g a (w.setRow g cs) :=
  h.trans ⟨rfl, rfl, rfl, by simp, fun k hk => setRow_other w g k cs hk⟩
theorem Blk.only {w w1 : World} {g g' : Nat} {t : TypeId} {cs : List Value} (h : Blk w g t cs) (hk : Only g' w w1) (hne : g ≠ g') : Blk w1 g t cs := (hk.block g hne).trans h
theorem Only.below {B g : Nat} {a w w1 : World} (h : Below B a w) (hk : Only g w w1) (hg : B ≤ g) : Below B a w1 :=
  h.trans ⟨hk.os, hk.tape, hk.output, by rw [hk.size]; exact Nat.le_refl _, fun k hlt => hk.block k (by omega)⟩

/-- The slice that begins at A reads as the numbers xs. -/
def Rd (w : World) (A : Option Addr) (k : IntKind) (xs : List Int) : Prop :=
  xs = [] ∨ ∃ g o, A = some ⟨g, o, none⟩ ∧ ∀ i, i < xs.length → w.cell? ⟨g, o + i, none⟩ = some (.int k (rd xs i))
theorem lt_of_cell {w : World} {g o : Nat} {v : Value} (h : w.cell? ⟨g, o, none⟩ = some v) : g < w.heap.size := block_lt_of_cell h
theorem Rd.below {w w1 : World} {A : Option Addr} {k : IntKind} {xs : List Int} (h : Rd w A k xs) (hb : Below w.heap.size w w1) : Rd w1 A k xs := by
  rcases h with h | ⟨g, o, rfl, h⟩
  · exact .inl h
  · exact .inr ⟨g, o, rfl, fun i hi => (hb.cell (p := ⟨g, o + i, none⟩) (lt_of_cell (h i hi))).trans (h i hi)⟩
theorem Rd.drewN {w : World} {A : Option Addr} {k : IntKind} {xs : List Int} (h : Rd w A k xs) (n : Nat) : Rd (w.drewN n) A k xs := h
theorem Rd.drew {w : World} {A : Option Addr} {k : IntKind} {xs : List Int} (h : Rd w A k xs) : Rd w.drew A k xs := h
theorem Rd.alloc {w : World} {A : Option Addr} {k : IntKind} {xs : List Int} (h : Rd w A k xs) (ob : Obj) : Rd (w.alloc ob) A k xs := h.below ((Below.refl _ _).alloc (Nat.le_refl _) _)
theorem Rd.only {w w1 : World} {A : Option Addr} {k : IntKind} {xs : List Int} {g : Nat} (h : Rd w A k xs) (hk : Only g w w1) (hne : ∀ ad, A = some ad → xs ≠ [] → ad.block ≠ g) : Rd w1 A k xs := by
  rcases h with h | ⟨g', o, rfl, h⟩
  · exact .inl h
  · by_cases he : xs = []
    · exact .inl he
    · have hb := hk.block g' (hne _ rfl he)
      exact .inr ⟨g', o, rfl, fun i hi => by rw [← h i hi]; simp only [World.cell?, hb]⟩
theorem Rd.nil (w : World) (A : Option Addr) (k : IntKind) : Rd w A k [] := .inl rfl
theorem Rd.ofBlk {w : World} {g : Nat} {t : TypeId} {k : IntKind} {xs : List Int} (h : Blk w g t (ints k xs)) : Rd w (some ⟨g, 0, none⟩) k xs :=
  .inr ⟨g, 0, rfl, fun i hi => by rw [Nat.zero_add]; exact h.cellI i hi⟩
theorem rd_take (xs : List Int) (n i : Nat) (h : i < n) : rd (xs.take n) i = rd xs i := by
  unfold rd; rw [List.getD_eq_getElem?_getD, List.getD_eq_getElem?_getD, List.getElem?_take, if_pos h]
theorem rd_drop (xs : List Int) (n i : Nat) : rd (xs.drop n) i = rd xs (n + i) := by
  unfold rd; rw [List.getD_eq_getElem?_getD, List.getD_eq_getElem?_getD, List.getElem?_drop]
theorem Rd.take {w : World} {A : Option Addr} {k : IntKind} {xs : List Int} (h : Rd w A k xs) (n : Nat) : Rd w A k (xs.take n) := by
  rcases h with h | ⟨g, o, rfl, h⟩
  · exact .inl (by simp [h])
  · exact .inr ⟨g, o, rfl, fun i hi => by
      have hi' := List.length_take_le n xs
      have : i < n := by have := List.length_take_le' n xs; rw [List.length_take] at hi; omega
      rw [rd_take _ _ _ this]; exact h i (by rw [List.length_take] at hi; omega)⟩
theorem Rd.cellAt {w : World} {g o : Nat} {k : IntKind} {xs : List Int} (h : Rd w (some ⟨g, o, none⟩) k xs) (i : Nat) (hi : i < xs.length) : w.cell? ⟨g, o + i, none⟩ = some (.int k (rd xs i)) := by
  rcases h with h | ⟨g', o', he, h⟩
  · subst h; simp at hi
  · injection he with he
    injection he with h1 h2
    subst h1 h2
    exact h i hi
theorem Rd.at {w : World} {A : Option Addr} {k : IntKind} {xs : List Int} (h : Rd w A k xs) (hne : 0 < xs.length) : ∃ g o, A = some ⟨g, o, none⟩ := by
  rcases h with h | ⟨g, o, he, _⟩
  · subst h; simp at hne
  · exact ⟨g, o, he⟩

/-- The slice value v, of the numbers xs, is the call's own: its block lies from base on. -/
def Own (w : World) (base : Nat) (e : TypeId) (k : IntKind) (v : Value) (xs : List Int) : Prop := w.ownsRow base e 1 v xs.length (ints k xs)
section
variable {w w1 : World} {base : Nat} {e : TypeId} {k : IntKind} {v : Value} {xs : List Int}
theorem Own.nil (w : World) (base : Nat) (e : TypeId) (k : IntKind) : Own w base e k (.slice none 0 0) [] := ⟨by simp [ints], .inl ⟨rfl, rfl⟩⟩
theorem Own.ofBlk {g : Nat} (h : Blk w g e (ints k xs)) (hb : base ≤ g) (hm : xs.length ≤ maxLen) : Own w base e k (.slice (some ⟨g, 0, none⟩) xs.length xs.length) xs :=
  ⟨by simp, .inr ⟨g, xs.length, (ints k xs).toArray, rfl, hb, h, Nat.le_refl _, hm, by simp, by simp [List.take_of_length_le]⟩⟩
theorem Own.slice (h : Own w base e k v xs) : ∃ A c, v = .slice A xs.length c ∧ xs.length ≤ c ∧ c ≤ maxLen ∧ Rd w A k xs := by
  obtain ⟨h1, ⟨rfl, h2⟩ | ⟨g, cap, cur, rfl, hg, hh, hn, hm, hs, ht⟩⟩ := h
  · exact ⟨none, 0, by rw [h2], by omega, by unfold maxLen; omega, .inl (List.eq_nil_of_length_eq_zero h2)⟩
  · refine ⟨_, cap, rfl, hn, hm, .inr ⟨g, 0, rfl, fun i hi => ?_⟩⟩
    have hc : w.cell? ⟨g, i, none⟩ = cur[i]? := cell_of_row w g i cur e (0, 0) hh
    rw [Nat.zero_add, hc]
    have : (ints k xs)[i]? = cur[i]? := by
      rw [← ht, Nat.mul_one, List.getElem?_take, if_pos hi]; simp
    rw [← this, ints_get k xs i hi]
theorem Own.kept {row : Option Nat} (h : Own w base e k v xs) (hg : w.grownBy w1 row) (hne : v.ownBlock = none ∨ v.ownBlock ≠ row) : Own w1 base e k v xs := by
  obtain ⟨h1, h2⟩ := h
  refine ⟨h1, ?_⟩
  rcases h2 with h2 | ⟨g, cap, cur, rfl, hb, hh, r⟩
  · exact .inl h2
  · refine .inr ⟨g, cap, cur, rfl, hb, ?_, r⟩
    rw [hg.block g (Array.getElem?_eq_some_iff.1 hh).1 ?_]
    · exact hh
    · rcases hne with hne | hne
      · simp [Value.ownBlock] at hne
      · simpa [Value.ownBlock] using hne
theorem Own.below (h : Own w base e k v xs) (hb : Below w.heap.size w w1) : Own w1 base e k v xs := by
  obtain ⟨h1, h2⟩ := h
  refine ⟨h1, ?_⟩
  rcases h2 with h2 | ⟨g, cap, cur, rfl, hg, hh, r⟩
  · exact .inl h2
  · exact .inr ⟨g, cap, cur, rfl, hg, (hb.block g (Array.getElem?_eq_some_iff.1 hh).1).trans hh, r⟩
theorem Own.alloc (h : Own w base e k v xs) (o : Obj) : Own (w.alloc o) base e k v xs := h.below ((Below.refl _ _).alloc (Nat.le_refl _) _)
theorem Own.drewN (h : Own w base e k v xs) (n : Nat) : Own (w.drewN n) base e k v xs := h
theorem Own.drew (h : Own w base e k v xs) : Own w.drew base e k v xs := h
theorem Own.lower {b : Nat} (h : Own w base e k v xs) (hb : b ≤ base) : Own w b e k v xs := by
  obtain ⟨h1, h2⟩ := h
  refine ⟨h1, ?_⟩
  rcases h2 with h2 | ⟨g, cap, cur, hv, hg, r⟩
  · exact .inl h2
  · exact .inr ⟨g, cap, cur, hv, Nat.le_trans hb hg, r⟩
theorem Own.base_le (h : Own w base e k v xs) (j : Nat) (hj : v.ownBlock = some j) : base ≤ j := by
  rcases h.2 with ⟨rfl, _⟩ | ⟨g, cap, cur, rfl, hg, r⟩
  · simp [Value.ownBlock] at hj
  · have : g = j := by simpa [Value.ownBlock] using hj
    omega
theorem Own.setOther (h : Own w base e k v xs) {a : Addr} (ha : some a.block ≠ v.ownBlock) (u : Value) : Own (w.setCell a u) base e k v xs := by
  obtain ⟨h1, h2⟩ := h
  refine ⟨h1, ?_⟩
  rcases h2 with h2 | ⟨g, cap, cur, rfl, hg, hh, r⟩
  · exact .inl h2
  · exact .inr ⟨g, cap, cur, rfl, hg, (Below.heap_setCell w a u g (fun he => ha (by simp [Value.ownBlock, he]))).trans hh, r⟩
theorem Own.ne_blk {g : Nat} {t : TypeId} {cs : List Value} (h : Own w base e k v xs) (hg : Blk w g t cs) (hne : e ≠ t) : v.ownBlock ≠ some g := by
  rcases h.2 with ⟨rfl, _⟩ | ⟨g', cap, cur, rfl, _, hh, r⟩
  · simp [Value.ownBlock]
  · intro he
    have : g' = g := by simpa [Value.ownBlock] using he
    subst this
    unfold Blk at hg
    rw [hh] at hg
    injection hg with hg
    injection hg with _ hg
    exact hne hg
theorem Own.ne_lt {g : Nat} (h : Own w base e k v xs) (hg : g < base) : v.ownBlock ≠ some g := by
  intro he
  have := h.base_le g he
  omega
end

theorem add_lit (g o j : Nat) : (⟨g, o, none⟩ : Addr).add j = ⟨g, o + j, none⟩ := by unfold Addr.add; split <;> simp_all

/-- append(s, ys...): s the call's own, ys whatever reads as numbers. -/
theorem append_list {P : Program} {w : World} {ops : Array Oper} {rest : List Oper} {o : Oper} {a : Act} {Q : Exit → Act → World → Prop} (hgd : o.guard = none) (s x : Operand) (t : TypeId)
    (ho : o.op = .call { callee := .builtin .append, args := #[s, x], argTypes := #[t, t] })
    (base : Nat) (e : TypeId) (k : IntKind) (bytes : Nat) (ht : P.underlying t = some (.slice e)) (hi : (P.info? e).map (fun i => (i.zero, i.size, i.bytes)) = some (some (.int k 0), 1, bytes))
    (v : Value) (xs : List Int) (hs : a.eval s = v) (hown : Own w base e k v xs)
    (A : Option Addr) (m c : Nat) (ys : List Int) (hx : a.eval x = .slice A m c) (hm : m = ys.length) (hA : A = none → c = 0) (hr : Rd w A k ys)
    (hbytes : (xs.length + ys.length) * bytes ≤ 140737488355328) (h63 : xs.length + ys.length ≤ 140737488355328) (hbase : base ≤ w.heap.size)
    (h : ∀ v' w', Own w' base e k v' (xs ++ ys) → w.grownBy w' v.ownBlock → wpList P ops Q rest (a.put o.dst v') w') : wpList P ops Q (o :: rest) a w := by
  obtain ⟨i, hi0, hz0, hz1, hz2⟩ := info_parts hi
  subst hm
  have h1 : ∀ u ∈ ints k ys, u.oneCell' = true := by
    intro u hu
    obtain ⟨y, _, rfl⟩ := List.mem_map.1 hu
    rfl
  cases A with
  | none =>
    have hy : ys = [] := by
      rcases hr with hr | ⟨g, o, he, _⟩
      · exact hr
      · cases he
    subst hy
    obtain rfl := hA rfl
    refine wpList_append_own_none hgd s x t ho base e i 1 ht hi0 v xs.length (ints k xs) hs hown hx ?_
    refine h v w ?_ (World.grownBy.refl _ _)
    rw [List.append_nil]
    exact hown
  | some ad =>
    refine wpList_append_own _ hgd s x t ho base e i (.int k 0) 1 bytes ht hi0 hz0 hz1 hz2 rfl (by decide) v xs.length (ints k xs) hs hown ad ys.length c (ints k ys) hx (by simp) ?_ h1 (by unfold maxLen; omega) hbytes hbase ?_
    · intro j u hj
      rcases hr with hr | ⟨g, o', he, hr⟩
      · subst hr; simp [ints] at hj
      · injection he with he
        subst he
        have hjl : j < ys.length := by
          have := (List.getElem?_eq_some_iff.1 hj).1
          simpa using this
        rw [ints_get k ys j hjl] at hj
        injection hj with hj
        subst hj
        rw [add_lit]
        exact hr j hjl
    · intro v' w' ho' hg' _
      refine h v' w' ?_ hg'
      unfold Own
      rw [List.length_append, ints_append]
      exact ho'
/-- append(s, y): s the call's own; y lies in a new block of its own. -/
theorem append_one {P : Program} {w : World} {ops : Array Oper} {rest : List Oper} {o : Oper} {a : Act} {Q : Exit → Act → World → Prop} (hgd : o.guard = none) (s x : Operand) (t : TypeId)
    (ho : o.op = .call { callee := .builtin .append, args := #[s, x], argTypes := #[t, t] })
    (base : Nat) (e : TypeId) (k : IntKind) (bytes : Nat) (ht : P.underlying t = some (.slice e)) (hi : (P.info? e).map (fun i => (i.zero, i.size, i.bytes)) = some (some (.int k 0), 1, bytes))
    (v : Value) (xs : List Int) (hs : a.eval s = v) (hown : Own w base e k v xs)
    (y : Int) (hx : a.eval x = .slice (some ⟨w.heap.size, 0, none⟩) 1 1)
    (hbytes : (xs.length + 1) * bytes ≤ 140737488355328) (h63 : xs.length + 1 ≤ 140737488355328) (hbase : base ≤ w.heap.size)
    (h : ∀ v' w', Own w' base e k v' (xs ++ [y]) → w.grownBy w' v.ownBlock → wpList P ops Q rest (a.put o.dst v') w') :
    wpList P ops Q (o :: rest) a (w.alloc (.cells #[.int k y] e)) := by
  refine append_list hgd s x t ho base e k bytes ht hi v xs hs (hown.alloc _) (some ⟨w.heap.size, 0, none⟩) 1 1 [y] hx rfl (by simp) ?_ (by simpa using hbytes) (by simpa using h63) (by simp; omega) ?_
  · exact Rd.ofBlk (t := e) (Blk.new w e (ints k [y]))
  · intro v' w' h1 h2
    exact h v' w' h1 ⟨h2.os, h2.tape, h2.output, Nat.le_trans (by simp) h2.size, fun j hj hne => (h2.block j (by simp; omega) hne).trans (Below.heap_alloc w _ j hj)⟩
theorem Own.grown_below {B base : Nat} {w0 w w1 : World} {e : TypeId} {k : IntKind} {v : Value} {xs : List Int} (h : Own w base e k v xs) (hb : Below B w0 w) (hg : w.grownBy w1 v.ownBlock) (h1 : B ≤ w.heap.size) (h2 : B ≤ base) : Below B w0 w1 :=
  hb.grown hg h1 (fun j hj => Nat.le_trans h2 (h.base_le j hj))
theorem rd_set' (xs : List Int) (i j : Nat) (x : Int) : rd (xs.set i x) j = if i = j ∧ j < xs.length then x else rd xs j := by
  unfold rd
  by_cases h : i = j
  · subst h
    by_cases hl : i < xs.length <;> simp [List.getElem?_set, hl]
  · simp [List.getElem?_set_ne h, h]
/-- copy into a block that is known whole, from its begin on. -/
theorem copy_blk {P : Program} {w : World} {ops : Array Oper} {rest : List Oper} {o : Oper} {a : Act} {Q : Exit → Act → World → Prop} (hgd : o.guard = none) (d s : Operand) (dT sT : TypeId)
    (ho : o.op = .call { callee := .builtin .copy, args := #[d, s], argTypes := #[dT, sT] }) (elem : TypeId) (hu : P.underlying dT = some (.slice elem)) (hsz : (P.info? elem).map (·.size) = some 1)
    (g dLen dCap : Nat) (hd : a.eval d = .slice (some ⟨g, 0, none⟩) dLen dCap) (A : Addr) (sLen sCap : Nat) (hs : a.eval s = .slice (some A) sLen sCap)
    (t : TypeId) (k : IntKind) (cur ys : List Int) (n : Nat) (hg : Blk w g t (ints k cur)) (hr : Rd w (some A) k ys) (hl : ys.length = sLen) (hn : n = min sLen dLen) (hfit : n ≤ cur.length)
    (h : wpList P ops Q rest (a.put o.dst (.int .i64 n)) (w.setRow g (ints k (ys.take n ++ cur.drop n)).toArray)) : wpList P ops Q (o :: rest) a w := by
  have hln : (ints k (ys.take n)).length = n := by simp; omega
  refine wpList_copy_own hgd d s dT sT ho elem hu hsz g 0 dLen dCap A sLen sCap hd hs (ints k cur).toArray t hg (ints k (ys.take n)) (by rw [hln, hn]) ?_ (by rw [hln]; simp; omega) ?_ ?_
  · intro j v hj
    have hj' : j < n := by have := (List.getElem?_eq_some_iff.1 hj).1; omega
    have hjl : j < ys.length := by omega
    rw [ints_get k _ j (by simp; try omega)] at hj
    injection hj with hj
    subst hj
    rw [rd_take _ _ _ hj']
    rcases hr with hr | ⟨g', o', he, hr⟩
    · subst hr; simp at hjl
    · injection he with he
      subst he
      rw [add_lit]
      exact hr j hjl
  · intro v hv
    obtain ⟨y, _, rfl⟩ := List.mem_map.1 hv
    rfl
  · have e : ((ints k cur).toArray.toList.take 0 ++ (ints k (ys.take n) ++ (ints k cur).toArray.toList.drop (0 + (ints k (ys.take n)).length))).toArray = (ints k (ys.take n ++ cur.drop n)).toArray := by
      rw [hln, Nat.zero_add, ints_append]
      simp [ints, List.map_drop]
    rw [e, hln]
    exact h
theorem Rd.drop {w : World} {A : Option Addr} {k : IntKind} {xs : List Int} (h : Rd w A k xs) (n c : Nat) (hn : n ≤ xs.length) (hc : xs.length ≤ c) : Rd w (if c = n then A else A.map (·.add n)) k (xs.drop n) := by
  by_cases he : n = xs.length
  · exact .inl (by rw [he]; simp)
  · rw [if_neg (by omega)]
    rcases h with h | ⟨g, o, rfl, h⟩
    · subst h; exact .inl (by simp)
    · refine .inr ⟨g, o + n, by simp [add_lit], fun i hi => ?_⟩
      rw [rd_drop, Nat.add_assoc]
      exact h (n + i) (by rw [List.length_drop] at hi; omega)
theorem max2_int (k k' : IntKind) (x y : Int) : Builtin.max2 (.int k x) (.int k' y) = pure (.int k (if x < y then y else x)) := by simp only [Builtin.max2, gt_iff_lt]
theorem min2_int (k k' : IntKind) (x y : Int) : Builtin.min2 (.int k x) (.int k' y) = pure (.int k (if y < x then y else x)) := by simp only [Builtin.min2]
end Go.Cour
/- Laws of memory whose worlds stay letters: a new variable, a slice literal, a struct read whole. -/
namespace Go.Cour
open Go.RowKit
section
variable {P : Program} {ops : Array Oper} {rest : List Oper} {o : Oper} {a : Act} {w : World} {Q : Exit → Act → World → Prop}
/-- A new variable; its block is the letter g, the world behind it the letter w'. -/
theorem alloc_blk (hgd : o.guard = none) (ty : TypeId) (ho : o.op = .alloc ty) (d : Option Tmp) (hd : o.dst = d) (cs : List Value)
    (hz : ((P.info? ty).bind (·.zero)).map (·.cells) = some cs.toArray)
    (h : ∀ (g : Nat) (w' : World), w.heap.size = g → Blk w' g ty cs → Below w.heap.size w w' → w'.heap.size = g + 1 → wpList P ops Q rest (a.put d (.pointer (some ⟨g, 0, none⟩))) w') :
    wpList P ops Q (o :: rest) a w := by
  subst hd
  have h1 := h w.heap.size (w.alloc (.cells cs.toArray ty)) rfl (Blk.new _ _ _) ((Below.refl _ _).alloc (Nat.le_refl _) _) (by simp)
  refine wpList_plain hgd fun K hK => ?_
  unfold Oper.wp execOp
  cases hi : P.info? ty with
  | none => simp [hi] at hz
  | some i =>
    cases hz0 : i.zero with
    | none => simp [hi, hz0] at hz
    | some z =>
      simp only [hi, hz0, Option.bind_some, Option.map_some, Option.some.injEq] at hz
      simp [ho, Instr.alloc, zeroValue, typeInfo, hi, hz0, newVar, newRow, hz]
      exact hK _ _ h1
/-- A slice literal of whole numbers, each written. -/
theorem literal_blk (hgd : o.guard = none) (t e : TypeId) (len : Nat) (parts : Array (Nat × Operand)) (ho : o.op = .buildSlice t len parts) (d : Option Tmp) (hd : o.dst = d)
    (k : IntKind) (zs : List Int)
    (hu : P.underlying t = some (.slice e)) (hsz : (P.info? e).map (·.size) = some 1) (hz : ((P.info? e).bind (·.zero)).isSome = true)
    (hlen : len = zs.length) (hpos : 0 < len) (hsmall : len ≤ 2 ^ 24)
    (hparts : parts.toList = (zs.zipIdx 0).map fun x => (x.2, Operand.const (Value.int k x.1)))
    (h : ∀ (g : Nat) (w' : World), w.heap.size = g → Blk w' g e (ints k zs) → Below w.heap.size w w' → w'.heap.size = g + 1 → wpList P ops Q rest (a.put d (.slice (some ⟨g, 0, none⟩) len len)) w') :
    wpList P ops Q (o :: rest) a w := by
  subst hd
  exact wpList_buildFlat hgd t e len parts ho k zs hu hsz hz hlen hpos hsmall hparts (h w.heap.size _ rfl (Blk.new _ _ _) ((Below.refl _ _).alloc (Nat.le_refl _) _) (by simp))
/-- A struct read whole out of its block. -/
theorem load_str (hgd : o.guard = none) (ty : TypeId) (x : Operand) (ho : o.op = .load ty x)
    (g : Nat) (hx : a.eval x = .pointer (some ⟨g, 0, none⟩)) (t : TypeId) (cs : List Value) (hg : Blk w g t cs) (fs : _) (hu : P.underlying ty = some (.struct fs))
    (hi : (P.info? ty).map (·.size) = some cs.length)
    (h : wpList P ops Q rest (a.put o.dst (.agg cs.toArray)) w) : wpList P ops Q (o :: rest) a w :=
  wpList_load_row hgd ty x ho g hx t cs.toArray (0, 0) _ hg hu rfl (by rw [hi]; simp) h
end
/-- Two results: a struct that lies in a block, and a slot. -/
theorem results_str2 {P : Program} {fn : Func} {p q : Tmp} {ty : TypeId} (h : fn.results = #[.cell p ty, .tmp q]) (tmps : Array Value) (w : World) (g : Nat) (t : TypeId) (cs : List Value) (v : Value) (fs : _)
    (hp : tmps.getD p undef = .pointer (some ⟨g, 0, none⟩)) (hq : tmps.getD q undef = v) (hg : Blk w g t cs)
    (hu : P.underlying ty = some (.struct fs)) (hi : (P.info? ty).map (·.size) = some cs.length) :
    (results fn tmps).run P w = .ok (.tuple #[.agg cs.toArray, v]) w := by
  have hp' : tmps[p]?.getD undef = .pointer (some ⟨g, 0, none⟩) := by simpa using hp
  have hq' : tmps[q]?.getD undef = v := by simpa using hq
  simp [results, h, hp', hq', asAddr, run_loadVar_row w g t ty cs.toArray (0, 0) _ hg hu rfl (by rw [hi]; simp)]
theorem Own.setRowOther {w : World} {base : Nat} {e : TypeId} {k : IntKind} {v : Value} {xs : List Int} (h : Own w base e k v xs) {g : Nat} (ha : v.ownBlock ≠ some g) (cs : Array Value) : Own (w.setRow g cs) base e k v xs := by
  obtain ⟨h1, h2⟩ := h
  refine ⟨h1, ?_⟩
  rcases h2 with h2 | ⟨g', cap, cur, rfl, hg, hh, r⟩
  · exact .inl h2
  · exact .inr ⟨g', cap, cur, rfl, hg, (setRow_other w g g' cs (fun he => ha (by simp [Value.ownBlock, he]))).trans hh, r⟩
end Go.Cour
/- Arrays of whole numbers: compared; read out of the midst of a block. -/
namespace Go.Cour
open Go.RowKit
theorem all_range_ints : ∀ (xs ys : List Int), xs.length = ys.length → ((List.range xs.length).all fun i => rd xs i == rd ys i) = decide (xs = ys)
  | [], [], _ => by simp
  | x :: xs, y :: ys, h => by
    have ih := all_range_ints xs ys (by simpa using h)
    rw [List.length_cons, List.range_succ_eq_map, List.all_cons, List.all_map]
    simp only [rd, List.getD_cons_zero, Function.comp_def, List.getD_cons_succ] at ih ⊢
    rw [ih]
    rw [Bool.eq_iff_iff]
    simp
  | [], _ :: _, h => by simp at h
  | _ :: _, [], h => by simp at h
section
variable {P : Program} (w : World)
theorem run_equalIn_ints (d : Nat) (t e : TypeId) (n : Nat) (k : IntKind) (ht : P.underlying t = some (.array n e)) (he : P.underlying e = some (.int k)) (hi : (P.info? e).map (·.size) = some 1)
    (xs ys : List Int) (hx : xs.length = n) (hy : ys.length = n) :
    (Op.equalIn (d + 2) t (.agg (ints k xs).toArray) (.agg (ints k ys).toArray)).run P w = .ok (decide (xs = ys)) w := by
  have hsz : ∀ w, (sizeOf e).run P w = .ok 1 w := fun w => by
    cases h : P.info? e with
    | none => simp [h] at hi
    | some i => simp [h] at hi; simp [sizeOf, typeInfo, h, hi]
  rw [← all_range_ints xs ys (hx.trans hy.symm), hx, List.range_eq_range', Op.equalIn]
  simp only [Sem.run_bind, run_underlying ht, Result.andThen_ok, hsz, Std.Legacy.Range.forIn_eq_forIn_range', Std.Legacy.Range.size, Nat.sub_zero, Nat.add_sub_cancel, Nat.div_one]
  have hl : ∀ i ∈ List.range' 0 n 1, i < n := fun i hi => by simpa using (List.mem_range'_1.1 hi).2
  generalize List.range' 0 n 1 = l at hl ⊢
  induction l with
  | nil => simp
  | cons i l ih =>
    have hi : i < n := hl i (by simp)
    have px : (part e (ints k xs).toArray (i * 1)).run P w = .ok (.int k (rd xs i)) w := by
      have := ints_get k xs i (by omega)
      simp [part, isAgg, run_underlying he, this]
    have py : (part e (ints k ys).toArray (i * 1)).run P w = .ok (.int k (rd ys i)) w := by
      have := ints_get k ys i (by omega)
      simp [part, isAgg, run_underlying he, this]
    have pe : (Op.equalIn (d + 1) e (.int k (rd xs i)) (.int k (rd ys i))).run P w = .ok (rd xs i == rd ys i) w := run_equalIn_int w d e k k _ _ he
    simp only [List.forIn_cons, Sem.run_bind, px, py, pe, Result.andThen_ok, List.all_cons]
    cases hb : (rd xs i == rd ys i)
    · simp
    · simp only [Bool.not_true, Bool.false_eq_true, if_false, Sem.run_pure, Result.andThen_ok, Bool.true_and]
      exact ih fun j hj => hl j (by simp [hj])
end
/-- An array read out of the midst of a block. -/
theorem load_in {P : Program} {ops : Array Oper} {rest : List Oper} {o : Oper} {a : Act} {w : World} {Q : Exit → Act → World → Prop} (hw : Region.wanted o (yielded ops a.tmps) = true) (ty : TypeId) (x : Operand) (ho : o.op = .load ty x)
    (g off : Nat) (hx : a.eval x = .pointer (some ⟨g, off, none⟩)) (cs : List Value) (hc : ∀ j v, cs[j]? = some v → w.cell? ⟨g, off + j, none⟩ = some v) (n : Nat) (e : TypeId) (hu : P.underlying ty = some (.array n e)) (hl : cs.length = n)
    (hi : (P.info? ty).map (·.size) = some n)
    (h : wpList P ops Q rest (a.put o.dst (.agg cs.toArray)) w) : wpList P ops Q (o :: rest) a w := by
  refine wpList_step fun K hK => ?_
  rw [if_pos hw]
  unfold Oper.wp execOp
  have h1 := run_loadCells_list (P := P) w ⟨g, off, none⟩ cs (fun j v hv => by rw [add_lit]; exact hc j v hv)
  rw [hl] at h1
  cases hii : P.info? ty with
  | none => simp [hii] at hi
  | some i =>
    simp [hii] at hi
    simp [ho, hx, Instr.loadAt, Instr.sureAddr, loadVar, isAgg, run_underlying hu, sizeOf, typeInfo, hii, hi, h1]
    exact hK _ _ h
/-- A composite value, guarded or not. -/
theorem build_to {P : Program} {ops : Array Oper} {rest : List Oper} {o : Oper} {a : Act} {w : World} {Q : Exit → Act → World → Prop} (hw : Region.wanted o (yielded ops a.tmps) = true) (t : TypeId) (parts : Array (Nat × Operand)) (ho : o.op = .build t parts)
    (cells : Array Value) (hf : P.built t (parts.map fun (i, x) => (i, a.eval x)).toList = some cells)
    (h : wpList P ops Q rest (a.put o.dst (.agg cells)) w) : wpList P ops Q (o :: rest) a w := by
  refine wpList_step fun K hK => ?_
  rw [if_pos hw]
  refine wp_build t parts ho (by rw [hf]; rfl) ?_
  rw [hf]
  exact hK _ _ h
/-- An own slice's parts; the empty one has no places. -/
theorem Own.parts {w : World} {base : Nat} {e : TypeId} {k : IntKind} {v : Value} {xs : List Int} (h : Own w base e k v xs) :
    ∃ A c, v = .slice A xs.length c ∧ xs.length ≤ c ∧ (A = none → c = 0) ∧ Rd w A k xs := by
  obtain ⟨A, c, rfl, h1, h2, h3⟩ := h.slice
  refine ⟨A, c, rfl, h1, fun hA => ?_, h3⟩
  rcases h.2 with ⟨hv, _⟩ | ⟨g, cap, cur, hv, r⟩
  · injection hv with _ _ h
  · injection hv with h; rw [hA] at h; cases h
/-- A slice literal of whole numbers, guarded or not. -/
theorem literal_in {P : Program} {ops : Array Oper} {rest : List Oper} {o : Oper} {a : Act} {w : World} {Q : Exit → Act → World → Prop} (hw : Region.wanted o (yielded ops a.tmps) = true) (t e : TypeId) (len : Nat) (parts : Array (Nat × Operand)) (ho : o.op = .buildSlice t len parts)
    (k : IntKind) (zs : List Int)
    (hu : P.underlying t = some (.slice e)) (hsz : (P.info? e).map (·.size) = some 1) (hz : ((P.info? e).bind (·.zero)).isSome = true)
    (hlen : len = zs.length) (hpos : 0 < len) (hsmall : len ≤ 2 ^ 24)
    (hparts : parts.toList = (zs.zipIdx 0).map fun x => (x.2, Operand.const (Value.int k x.1)))
    (h : ∀ (g : Nat) (w' : World), w.heap.size = g → Blk w' g e (ints k zs) → Below w.heap.size w w' → w'.heap.size = g + 1 → wpList P ops Q rest (a.put o.dst (.slice (some ⟨g, 0, none⟩) len len)) w') :
    wpList P ops Q (o :: rest) a w := by
  have h1 := h w.heap.size _ rfl (Blk.new w e (ints k zs)) ((Below.refl _ _).alloc (Nat.le_refl _) _) (by simp)
  cases hie : P.info? e with
  | none => simp [hie] at hsz
  | some ie =>
    simp only [hie, Option.map_some, Option.some.injEq, Option.bind_some] at hsz hz
    obtain ⟨z, hzz⟩ := Option.isSome_iff_exists.1 hz
    refine wpList_step fun K hK => ?_
    rw [if_pos hw]
    refine wp_buildSlice t e len parts ho (ints k zs).toArray ie z hu hie hzz (by rw [hsz]; omega) (by rw [hsz]; omega) ?_ (hK _ _ h1)
    rw [parts_eval a parts k zs hparts, hsz]
    exact Great.fill_flat _ _ (fun v hv => by obtain ⟨n, _, rfl⟩ := List.mem_map.1 hv; rfl) (by simp [hlen])
/-- A composite value laid into a new variable. -/
theorem box_blk {P : Program} {ops : Array Oper} {rest : List Oper} {o : Oper} {a : Act} {w : World} {Q : Exit → Act → World → Prop} (hgd : o.guard = none) (ty : TypeId) (x : Operand) (ho : o.op = .box ty x) (d : Option Tmp) (hd : o.dst = d) (cs : List Value)
    (hx : a.eval x = .agg cs.toArray)
    (h : ∀ (g : Nat) (w' : World), w.heap.size = g → Blk w' g ty cs → Below w.heap.size w w' → w'.heap.size = g + 1 → wpList P ops Q rest (a.put d (.pointer (some ⟨g, 0, none⟩))) w') :
    wpList P ops Q (o :: rest) a w := by
  subst hd
  have h1 := h w.heap.size (w.alloc (.cells cs.toArray ty)) rfl (Blk.new _ _ _) ((Below.refl _ _).alloc (Nat.le_refl _) _) (by simp)
  refine wpList_plain hgd fun K hK => ?_
  unfold Oper.wp execOp
  simp [ho, hx, Instr.box, newVar, newRow, Value.cells]
  exact hK _ _ h1
end Go.Cour
/- Errors as pointers of their own: held against each other; faults as plain data. -/
namespace Go.Proofs.YtenjpmegnjdobaaDoor
open Go.RowKit Go.Cour
/-- An error of api's, by where it points. -/
def errV (a : Addr) : Value := .iface 95 (.pointer (some a))
/-- The variables, in the order in which they are numbered from 101 on. -/
def globs : List Nat := [2, 3, 0, 4, 5, 6, 7, 8, 1, 9, 10, 11, 12, 13, 14, 15, 16, 17, 18]
/-- Each variable holds an error of its own. -/
structure Errs (w : World) (P : Nat → Addr) : Prop where
  cell : ∀ i, i < 19 → w.cell? ⟨globs.getD i 0, 0, none⟩ = some (errV (P i))
  inj : ∀ i j, i < 19 → j < 19 → P i = P j → i = j
  froz : ∀ i, i < 19 → ∃ c t, w.heap[(P i).block]? = some (.cells c t (0, 0))
theorem Errs.below {w w' : World} {P : Nat → Addr} (h : Errs w P) (hb : Below w.heap.size w w') : Errs w' P := by
  refine ⟨fun i hi => ?_, h.inj, fun i hi => ?_⟩
  · have hc := h.cell i hi
    exact (hb.cell (lt_of_cell hc)).trans hc
  · obtain ⟨c, t, hf⟩ := h.froz i hi
    exact ⟨c, t, (hb.block _ (Array.getElem?_eq_some_iff.1 hf).1).trans hf⟩
theorem Errs.drewN {w : World} {P : Nat → Addr} (h : Errs w P) (n : Nat) : Errs (w.drewN n) P := ⟨h.cell, h.inj, h.froz⟩
/-- The two that opening tells. -/
def Errs2 (w : World) (P : Nat → Addr) : Prop := w.cell? ⟨0, 0, none⟩ = some (errV (P 2)) ∧ w.cell? ⟨1, 0, none⟩ = some (errV (P 8))
theorem Errs.two {w : World} {P : Nat → Addr} (h : Errs w P) : Errs2 w P := ⟨h.cell 2 (by omega), h.cell 8 (by omega)⟩
theorem Errs2.below {w w' : World} {P : Nat → Addr} (h : Errs2 w P) (hb : Below w.heap.size w w') : Errs2 w' P :=
  ⟨(hb.cell (lt_of_cell h.1)).trans h.1, (hb.cell (lt_of_cell h.2)).trans h.2⟩
theorem undErr : ∃ ms, Tryd.prog.underlying 35 = some (.interface ms) := ⟨_, Tryd.underlying35⟩
theorem undES : Tryd.prog.underlying 95 = some (.pointer 112) := by kernel_rfl
theorem compES : (Tryd.prog.info? 95).map (·.comparable) = some true := by kernel_rfl
theorem sizeES0 : (Tryd.prog.info? 112).map (·.size) = some 1 := by kernel_rfl
/-- Two of them, held against each other. -/
theorem err_eql {w : World} {P : Nat → Addr} (h : Errs w P) (i j : Nat) (hi : i < 19) (hj : j < 19) :
    (binOp .eql 35 (errV (P i)) (errV (P j))).run Tryd.prog w = .ok (.bool (decide (i = j))) w := by
  obtain ⟨ms, hms⟩ := undErr
  obtain ⟨ti, hti, hcmp⟩ := Option.map_eq_some_iff.1 compES
  obtain ⟨tj, htj, htjs⟩ := Option.map_eq_some_iff.1 sizeES0
  by_cases hij : i = j
  · subst hij
    rw [decide_eq_true rfl]
    exact run_eql_iface_ptr_same w (P i) hms undES hti hcmp htj
  · rw [decide_eq_false hij]
    obtain ⟨ci, t1, hci⟩ := h.froz i hi
    obtain ⟨cj, t2, hcj⟩ := h.froz j hj
    exact run_eql_iface_ptr_other w hms undES hti hcmp htj (by rw [htjs]; decide) (fun he => hij (h.inj i j hi hj he)) hci hcj
theorem err_nil_right (a : Addr) (w : World) : (binOp .eql 35 (errV a) .nilIface).run Tryd.prog w = .ok (.bool false) w := by
  obtain ⟨ms, hms⟩ := undErr
  have h : ∀ d : Nat, (Op.equalIn (d + 1) 35 (errV a) .nilIface).run Tryd.prog w = .ok false w := fun d => by simp [Op.equalIn, run_underlying hms, errV]
  simp only [binOp]
  simp [Op.equal, Op.maxDepth, h 9999]
theorem nil_nil (w : World) : (binOp .eql 35 .nilIface .nilIface).run Tryd.prog w = .ok (.bool true) w := by
  obtain ⟨ms, hms⟩ := undErr
  have h : ∀ d : Nat, (Op.equalIn (d + 1) 35 .nilIface .nilIface).run Tryd.prog w = .ok true w := fun d => by simp [Op.equalIn, run_underlying hms]
  simp only [binOp]
  simp [Op.equal, Op.maxDepth, h 9999]
theorem eqGuard_err (op : BinOp) (t : TypeId) (x y : Operand) (a : Addr) (v : Value) : eqGuard op t x y (errV a) v = pure () := by cases op <;> rfl
set_option maxHeartbeats 400000 in
theorem alike_calls {w : World} {P : Nat → Addr} (h : Errs w P) (i j : Nat) (hi : i < 19) (hj : j < 19) :
    Calls Tryd.prog 58 #[errV (P i), errV (P j)] w fun e w' => e = .returned (.bool (decide (i = j))) ∧ w' = w := by
  have h1 := err_eql h i j hi hj
  have h2 := err_nil_right (P i) w
  have h3 := err_nil_right (P j) w
  have h4 := fun op t x y v => eqGuard_err op t x y (P i) v
  have h5 := fun op t x y v => eqGuard_err op t x y (P j) v
  generalize errV (P i) = x at *
  generalize errV (P j) = y at *
  go_enter Tryd.func58, Tryd.ntmps58
  go_wp2_with fail
  go_ret
  exact ⟨rfl, rfl⟩
/-- A fault's cells. -/
def faultC (c : Int) (p : Bool) (n : Int) : List Value := [.int .i64 c, .bool p, .int .i64 n]
theorem infoF : (Tryd.prog.info? 53).map (·.size) = some 3 := by kernel_rfl
theorem zeroF : ((Tryd.prog.info? 53).bind (·.zero)).map (·.cells) = some (faultC 0 false 0).toArray := by kernel_rfl
theorem undF : ∃ fs, Tryd.prog.underlying 53 = some (.struct fs) := ⟨_, Tryd.underlying53⟩
theorem oneF (c : Int) (p : Bool) (n : Int) : (faultC c p n).toArray.all (·.oneCell') = true := by simp [faultC, Value.oneCell']
theorem results_str1 {P : Program} {fn : Func} {p : Tmp} {ty : TypeId} (h : fn.results = #[.cell p ty]) (tmps : Array Value) (w : World) (g : Nat) (t : TypeId) (cs : List Value) (fs : _)
    (hp : tmps.getD p undef = .pointer (some ⟨g, 0, none⟩)) (hg : Blk w g t cs)
    (hu : P.underlying ty = some (.struct fs)) (hi : (P.info? ty).map (·.size) = some cs.length) :
    (results fn tmps).run P w = .ok (.agg cs.toArray) w :=
  results_cell_row h tmps w g t cs.toArray (0, 0) _ hp hg hu rfl (by rw [hi]; simp)
set_option maxHeartbeats 400000 in
theorem none_calls (w : World) : Calls Tryd.prog 45 #[] w fun e w' => e = .returned (.agg (faultC 0 false 0).toArray) ∧ Below w.heap.size w w' := by
  obtain ⟨fs, hfs⟩ := undF
  go_enter Tryd.func45, Tryd.ntmps45
  go_wp2_with (first
    | (refine alloc_blk rfl 53 rfl _ rfl (faultC 0 false 0) zeroF ?_; intro g1 w1 hg1 hb1 hB1 hs1)
    | (refine store_blk rfl 53 _ _ rfl g1 (faultC 0 false 0) rfl rfl 53 _ hb1 3 infoF rfl rfl (oneF _ _ _) ?_)
    | fail)
  refine bodyPost_ret (results_str1 rfl _ _ g1 53 _ fs rfl (hb1.setRow (faultC 0 false 0)) hfs infoF) rfl ?_
  exact ⟨rfl, below_setRow hB1 (by omega) _⟩
set_option maxHeartbeats 400000 in
theorem bare_calls (c : Int) (w : World) : Calls Tryd.prog 31 #[.int .i64 c] w fun e w' => e = .returned (.agg (faultC c false 0).toArray) ∧ Below w.heap.size w w' := by
  obtain ⟨fs, hfs⟩ := undF
  go_enter Tryd.func31, Tryd.ntmps31
  go_wp2_with (first
    | (refine alloc_blk rfl 53 rfl _ rfl (faultC 0 false 0) zeroF ?_; intro g1 w1 hg1 hb1 hB1 hs1)
    | (refine store_blk rfl 53 _ _ rfl g1 (faultC c false 0) rfl rfl 53 _ hb1 3 infoF rfl rfl (oneF _ _ _) ?_)
    | fail)
  refine bodyPost_ret (results_str1 rfl _ _ g1 53 _ fs rfl (hb1.setRow (faultC c false 0)) hfs infoF) rfl ?_
  exact ⟨rfl, below_setRow hB1 (by omega) _⟩
set_option maxHeartbeats 400000 in
theorem sameFault_calls (c d : Int) (w : World) : Calls Tryd.prog 37 #[.agg (faultC c false 0).toArray, .agg (faultC d false 0).toArray] w fun e w' => e = .returned (.bool (c == d)) ∧ Below w.heap.size w w' := by
  cases hcd : (c == d)
  all_goals
    go_enter Tryd.func37, Tryd.ntmps37
    go_wp2_with (first
      | (have hx := hb1; refine box_blk rfl 53 _ rfl _ rfl (faultC d false 0) rfl ?_; clear hx; intro g2 w2 hg2 hb2 hB2 hs2
         have c2 := hb2.cell 0; have d2 := hb2.cell 1; have e2 := hb2.cell 2
         have hb3 := hb1.belowAll hB2
         have c1 := hb3.cell 0; have d1 := hb3.cell 1; have e1 := hb3.cell 2
         simp only [faultC, List.getElem?_cons_zero, List.getElem?_cons_succ] at c1 d1 e1 c2 d2 e2
         have hB := below_then hB1 hB1.size hB2
         clear hg1 hg2 hs1 hs2)
      | (refine box_blk rfl 53 _ rfl _ rfl (faultC c false 0) rfl ?_; intro g1 w1 hg1 hb1 hB1 hs1)
      | fail)
    go_ret
    exact ⟨rfl, hB⟩
end Go.Proofs.YtenjpmegnjdobaaDoor
/- What the listed variables hold: each an error of its own. -/
namespace Go.Proofs.YtenjpmegnjdobaaDoor
open Go.ChangeShapes Go.WideShapes Go.RowKit Go.Cour
/-- An error az errors.New makes it. -/
def errD {H : Type} (text : List UInt8) : DataW H := .iface "*errors.errorString" (.ptr (.agg [.lit (.string text)]))
def NamesAt : List (String × List UInt8) → List Nat → Prop
  | [], [] => True
  | x :: l, g :: gs => (Tryd.prog.globalNamed x.1 = some g ∧ (Tryd.prog.globals[g]?).map (·.type) = some 35) ∧ NamesAt l gs
  | _, _ => False
theorem nameES : "*" ++ "errors.errorString" = "*errors.errorString" := by decide
theorem rowES (u : TypeId) (h : Tryd.prog.typeName? 3 u = some "*errors.errorString") : u = 95 :=
  typeName_ptr_named (nm := "errors.errorString") (by rw [nameES]; kernel_rfl) (by kernel_rfl) (by decide) u (by rw [nameES]; exact h)
theorem cellsES0 : Tryd.prog.cellsOf 112 = 1 := by kernel_rfl
theorem cellsStr : Tryd.prog.cellsOf 9 = 1 := by kernel_rfl
set_option maxRecDepth 100000 in
theorem laid_errs {W : World} : ∀ (l : List (String × List UInt8)) (gs : List Nat) (ps : List MemPlace), NamesAt l gs → DataW.LaidVars Tryd.prog W (l.map fun x => (x.1, errD x.2)) ps →
    (∀ b off, MemPlace.cell b off ∈ ps → (∃ c t, W.heap[b]? = some (.cells c t (0, 0))) ∧ ∀ u v, W.cell? ⟨b, off, none⟩ = some (.iface u v) → Value.okWide Tryd.prog W .any 0 u v) →
    ∃ az : List Addr, az.length = l.length ∧ (∀ i a, az[i]? = some a → W.cell? ⟨gs.getD i 0, 0, none⟩ = some (errV a) ∧ MemPlace.cell a.block a.off ∈ ps) ∧ (ps.Nodup → az.Nodup)
  | [], gs, ps, _, _, _ => ⟨[], rfl, fun i a h => by simp at h, fun _ => List.nodup_nil⟩
  | x :: l, [], ps, hn, _, _ => hn.elim
  | x :: l, g :: gs, ps, hn, hl, hr => by
    obtain ⟨⟨hg, ht⟩, hn'⟩ := hn
    obtain ⟨g0, t0, cs0, f0, p0, q0, hg0, ht0, hv0, hd0, hq0, e0⟩ := hl
    obtain rfl := Option.some.inj (hg.symm.trans hg0)
    obtain rfl := Option.some.inj (ht.symm.trans ht0)
    subst e0
    obtain ⟨l0⟩ := cs0
    have ok0 : ∀ u v, l0 = [.iface u v] → Value.okWide Tryd.prog W .any 0 u v := fun u v e => by
      subst e
      exact (hr g 0 (by simp [MemPlace.row])).2 u v (by simpa using World.var?_cell hg0 hv0 0)
    obtain ⟨a0, s0, rfl, hc0, hs0, hz0, rfl⟩ := errorString_of_trod Tryd.underlying35 rowES Tryd.underlying95 Tryd.underlying112 rfl rfl Tryd.underlying9 cellsES0 cellsStr hd0 ok0
    obtain ⟨az, h1, h2, h3⟩ := laid_errs l gs q0 hn' hq0 (fun b off hm => hr b off (List.mem_append_right _ hm))
    refine ⟨a0 :: az, by simp [h1], fun i a hi => ?_, fun hnd => ?_⟩
    · cases i with
      | zero =>
        simp only [List.getElem?_cons_zero, Option.some.injEq] at hi
        subst hi
        exact ⟨by simpa [errV] using World.var?_cell hg0 hv0 0, by simp [MemPlace.row]⟩
      | succ i =>
        obtain ⟨h4, h5⟩ := h2 i a (by simpa using hi)
        exact ⟨by simpa using h4, List.mem_append_right _ h5⟩
    · have hnq := List.Nodup.sublist (List.sublist_append_right _ _) hnd
      refine List.nodup_cons.2 ⟨fun hm => ?_, h3 hnq⟩
      obtain ⟨i, hi⟩ := List.getElem?_of_mem hm
      have h5 := (h2 i a0 hi).2
      have h6 := (List.nodup_append.1 hnd).2.2 (MemPlace.cell a0.block a0.off) (by simp [MemPlace.row]) (MemPlace.cell a0.block a0.off) h5
      exact h6 rfl
def errTexts : List (String × List UInt8) := [("courier/api.ErrOff", [116, 104, 101, 114, 101, 32, 105, 115, 32, 110, 111, 32, 112, 111, 119, 101, 114]), ("courier/api.ErrRange", [97, 32, 110, 117, 109, 98, 101, 114, 32, 111, 117, 116, 32, 111, 102, 32, 105, 116, 115, 32, 114, 97, 110, 103, 101]), ("courier/api.ErrShort", [98, 121, 116, 101, 115, 32, 116, 104, 97, 116, 32, 101, 110, 100, 32, 116, 111, 111, 32, 101, 97, 114, 108, 121]), ("courier/api.ErrTrail", [98, 121, 116, 101, 115, 32, 98, 101, 104, 105, 110, 100, 32, 116, 104, 101, 32, 101, 110, 100]), ("courier/api.ErrForm", [110, 111, 116, 32, 97, 115, 32, 105, 116, 32, 115, 104, 111, 117, 108, 100, 32, 98, 101]), ("courier/api.ErrPanic", [115, 111, 109, 101, 116, 104, 105, 110, 103, 32, 119, 101, 110, 116, 32, 119, 114, 111, 110, 103]), ("courier/api.ErrFull", [116, 104, 101, 114, 101, 32, 105, 115, 32, 110, 111, 32, 114, 111, 111, 109]), ("courier/api.ErrStore", [97, 32, 115, 116, 111, 114, 101, 32, 116, 104, 97, 116, 32, 99, 97, 110, 39, 116, 32, 98, 101]), ("courier/api.ErrTag", [110, 111, 116, 32, 115, 101, 97, 108, 101, 100, 32, 98, 121, 32, 116, 104, 97, 116, 32, 107, 101, 121]), ("courier/api.ErrGap", [116, 111, 111, 32, 109, 97, 110, 121, 32, 97, 114, 101, 32, 109, 105, 115, 115, 105, 110, 103]), ("courier/api.ErrOld", [116, 104, 97, 116, 32, 119, 97, 115, 32, 116, 104, 101, 114, 101, 32, 97, 108, 114, 101, 97, 100, 121]), ("courier/api.ErrKey", [110, 111, 32, 107, 101, 121, 32, 121, 101, 116]), ("courier/api.ErrRoot", [97, 110, 111, 116, 104, 101, 114, 32, 114, 111, 111, 116]), ("courier/api.ErrNone", [116, 104, 101, 114, 101, 32, 105, 115, 32, 110, 111, 110, 101]), ("courier/api.ErrOpen", [105, 116, 32, 105, 115, 32, 116, 104, 101, 114, 101, 32, 97, 108, 114, 101, 97, 100, 121]), ("courier/api.ErrDigest", [97, 110, 111, 116, 104, 101, 114, 32, 100, 105, 103, 101, 115, 116]), ("courier/api.ErrState", [110, 111, 116, 32, 110, 111, 119]), ("courier/api.ErrLimit", [109, 111, 114, 101, 32, 116, 104, 97, 110, 32, 109, 97, 121, 32, 98, 101]), ("courier/api.ErrClosed", [99, 108, 111, 115, 101, 100])]
theorem namesAt : NamesAt errTexts globs := ⟨⟨by kernel_rfl, by kernel_rfl⟩, ⟨by kernel_rfl, by kernel_rfl⟩, ⟨by kernel_rfl, by kernel_rfl⟩, ⟨by kernel_rfl, by kernel_rfl⟩, ⟨by kernel_rfl, by kernel_rfl⟩, ⟨by kernel_rfl, by kernel_rfl⟩, ⟨by kernel_rfl, by kernel_rfl⟩, ⟨by kernel_rfl, by kernel_rfl⟩, ⟨by kernel_rfl, by kernel_rfl⟩, ⟨by kernel_rfl, by kernel_rfl⟩, ⟨by kernel_rfl, by kernel_rfl⟩, ⟨by kernel_rfl, by kernel_rfl⟩, ⟨by kernel_rfl, by kernel_rfl⟩, ⟨by kernel_rfl, by kernel_rfl⟩, ⟨by kernel_rfl, by kernel_rfl⟩, ⟨by kernel_rfl, by kernel_rfl⟩, ⟨by kernel_rfl, by kernel_rfl⟩, ⟨by kernel_rfl, by kernel_rfl⟩, ⟨by kernel_rfl, by kernel_rfl⟩, trivial⟩
theorem errs_of_laid {W : World} (h : laidMet Tryd.prog (errTexts.map fun x => (x.1, errD x.2)) W) : ∃ P, Errs W P := by
  obtain ⟨ps, hv, hnd, hrows⟩ := h
  obtain ⟨az, h1, h2, h3⟩ := laid_errs errTexts globs ps namesAt hv hrows
  have hl : az.length = 19 := h1
  have hget : ∀ i, i < 19 → az[i]? = some (az.getD i ⟨0, 0, none⟩) := fun i hi => by
    rw [List.getD_eq_getElem?_getD, List.getElem?_eq_getElem (by omega)]; rfl
  refine ⟨fun i => az.getD i ⟨0, 0, none⟩, fun i hi => (h2 i _ (hget i hi)).1, fun i j hi hj he => ?_, fun i hi => (hrows _ _ (h2 i _ (hget i hi)).2).1⟩
  have h4 := hget i hi
  have h5 := hget j hj
  rw [he] at h4
  have hp := List.pairwise_iff_getElem.1 (h3 hnd)
  have hgi : az[i]? = some az[i] := List.getElem?_eq_getElem (by omega)
  have hgj : az[j]? = some az[j] := List.getElem?_eq_getElem (by omega)
  have heq : az[i] = az[j] := Option.some.inj (hgi.symm.trans (h4.trans (h5.symm.trans hgj)))
  rcases Nat.lt_trichotomy i j with hlt | rfl | hlt
  · exact absurd heq (hp i j (by omega) (by omega) hlt)
  · rfl
  · exact absurd heq.symm (hp j i (by omega) (by omega) hlt)
def errTexts2 : List (String × List UInt8) := [("courier/api.ErrShort", [98, 121, 116, 101, 115, 32, 116, 104, 97, 116, 32, 101, 110, 100, 32, 116, 111, 111, 32, 101, 97, 114, 108, 121]), ("courier/api.ErrTag", [110, 111, 116, 32, 115, 101, 97, 108, 101, 100, 32, 98, 121, 32, 116, 104, 97, 116, 32, 107, 101, 121])]
theorem namesAt2 : NamesAt errTexts2 [0, 1] := ⟨⟨by kernel_rfl, by kernel_rfl⟩, ⟨by kernel_rfl, by kernel_rfl⟩, trivial⟩
theorem errs2_of_laid {W : World} (h : laidMet Tryd.prog (errTexts2.map fun x => (x.1, errD x.2)) W) : ∃ P, Errs2 W P := by
  obtain ⟨ps, hv, hnd, hrows⟩ := h
  obtain ⟨az, h1, h2, h3⟩ := laid_errs errTexts2 [0, 1] ps namesAt2 hv hrows
  have hl : az.length = 2 := h1
  have hget : ∀ i, i < 2 → az[i]? = some (az.getD i ⟨0, 0, none⟩) := fun i hi => by
    rw [List.getD_eq_getElem?_getD, List.getElem?_eq_getElem (by omega)]; rfl
  exact ⟨fun i => if i = 2 then az.getD 0 ⟨0, 0, none⟩ else az.getD 1 ⟨0, 0, none⟩, (h2 0 _ (hget 0 (by omega))).1, (h2 1 _ (hget 1 (by omega))).1⟩
end Go.Proofs.YtenjpmegnjdobaaDoor
/- A slice of numbers that came in, as the numbers that it reads as. -/
namespace Go.Cour
open Go.RowKit Go.ChangeShapes Go.WideShapes
/-- What is known of a slice of whole numbers that came in: it is nil; or it leads to a row of 'cap' cells, the numbers 'zs' (the first 'len' are its elements), each fitting its kind. -/
def IsRow (k : IntKind) (w : World) (a : Option Addr) (len cap : Nat) (zs : List Int) : Prop :=
  (a = none ∧ len = 0 ∧ cap = 0 ∧ zs = []) ∨
  ∃ x, a = some x ∧ len ≤ cap ∧ cap ≤ maxLen ∧ zs.length = cap ∧ (∀ i, i < zs.length → w.cell? (x.add i) = some (.int k (zs.getD i 0))) ∧ ∀ n ∈ zs, (Lit.int k n).wf = true
theorem IsRow.parts {k : IntKind} {w : World} {a : Option Addr} {len cap : Nat} {zs : List Int} (h : IsRow k w a len cap zs) :
    len = (zs.take len).length ∧ (a = none → cap = 0) ∧ len ≤ cap ∧ cap ≤ maxLen ∧ Rd w a k (zs.take len) ∧ ∀ n ∈ zs.take len, (Lit.int k n).wf = true := by
  rcases h with ⟨rfl, rfl, rfl, rfl⟩ | ⟨x, rfl, h1, h2, h3, h4, h5⟩
  · exact ⟨rfl, fun _ => rfl, Nat.le_refl _, by unfold maxLen; omega, .inl rfl, fun n hn => by simp at hn⟩
  · refine ⟨by rw [List.length_take]; omega, (fun h => by cases h), h1, h2, ?_, fun n hn => h5 n (List.mem_of_mem_take hn)⟩
    by_cases hz : len = 0
    · exact .inl (by rw [hz]; rfl)
    · have h0 := h4 0 (by omega)
      have hs : x.spot = none := by
        have := World.cell?_spot h0
        simpa [Addr.add] using this
      have hx : x = ⟨x.block, x.off, none⟩ := by cases x; simp_all
      refine .inr ⟨x.block, x.off, by rw [← hx], fun i hi => ?_⟩
      rw [List.length_take] at hi
      have h6 := h4 i (by omega)
      rw [hx, add_lit] at h6
      rw [h6, rd_take _ _ _ (by omega)]
      rfl
theorem wf_u8 {x : Int} (h : (Lit.int .u8 x).wf = true) : 0 ≤ x ∧ x < 256 := by
  have h1 : IntKind.u8.min = 0 := by decide
  have h2 : IntKind.u8.max = 255 := by decide
  simp [Lit.wf, h1, h2] at h
  omega
theorem u32_wf {x : Int} (h : (Lit.int .u32 x).wf = true) : 0 ≤ x ∧ x < 4294967296 := by
  have h1 : IntKind.u32.min = 0 := by decide
  have h2 : IntKind.u32.max = 4294967295 := by decide
  simp [Lit.wf, h1, h2] at h
  omega
/-- Numbers that fit a byte are bytes wherever they are read. -/
theorem rd_bytes {xs : List Int} (h : ∀ x ∈ xs, (Lit.int .u8 x).wf = true) (i : Nat) : 0 ≤ rd xs i ∧ rd xs i < 256 := by
  unfold rd
  rw [List.getD_eq_getElem?_getD]
  cases hx : xs[i]? with
  | none => simp
  | some x => exact wf_u8 (h x (List.mem_of_getElem? hx))
section
variable {H : Type} {enc : TypeId × Value → H} {P : Program} {W : World} {base : Nat} {sp : Nat → Bool} {held : Bool}
/-- An array of whole numbers that came in. -/
theorem open_iarr {t e : TypeId} {n : Nat} {k : IntKind} (ht : P.underlying t = some (.array n e)) (he : P.underlying e = some (.int k)) (hc : P.cellsOf e = 1) (hct : P.cellsOf t = n)
    {r : Reach} {b0 : Nat} {v : Value} (hval : Value.okWide P W r b0 t v) {d : DataW H} {ps : List MemPlace} (hd : DataW.Trod enc P W base sp held t v d ps) :
    ∃ xs : List Int, v = .agg (ints k xs).toArray ∧ xs.length = n ∧ ∀ x ∈ xs, (Lit.int k x).wf = true := by
  simp only [Value.okWide, ht] at hval
  obtain ⟨cs, rfl, hsz, _⟩ := hval
  obtain ⟨fuel, hf⟩ := hd
  obtain ⟨ys, m, _, _, hl, hyl, hel⟩ := DataW.trod_array ht hf
  rw [hct] at hsz
  have hall : ∀ i, (hi : i < n) → ∃ a, cs.toList[i]? = some (.int k a) ∧ (Lit.int k a).wf = true := fun i hi => by
    have h1 := hel i hi
    rw [hc, Nat.mul_one] at h1
    have hy : ys[i]? = some ys[i] := List.getElem?_eq_getElem (by omega)
    rw [hy] at h1
    obtain ⟨a, ea, _, wa⟩ := DataW.trod_int he h1
    refine ⟨a, ?_, wa⟩
    have h2 : (((Value.agg cs).cells.toList.drop i).take 1)[0]? = some (.int k a) := by rw [ea]; rfl
    simpa [Value.cells] using h2
  refine ⟨cs.toList.map fun v => match v with | .int _ a => a | _ => 0, ?_, by simpa using hsz, ?_⟩
  · congr 1
    apply Array.ext_getElem?
    intro i
    by_cases hi : i < n
    · obtain ⟨a, h1, _⟩ := hall i hi
      have h2 : cs[i]? = some (.int k a) := by simpa using h1
      rw [h2]
      simp [ints, h2]
    · rw [Array.getElem?_eq_none (by omega), Array.getElem?_eq_none (by simp [ints]; omega)]
  · intro x hx
    obtain ⟨v, hv, rfl⟩ := List.mem_map.1 hx
    obtain ⟨i, hi⟩ := List.getElem?_of_mem hv
    have hin : i < n := by
      have := (List.getElem?_eq_some_iff.1 hi).1
      simp at this; omega
    obtain ⟨a, h1, wa⟩ := hall i hin
    rw [hi] at h1
    injection h1 with h1
    subst h1
    exact wa
end
end Go.Cour
/- A tag's arithmetic: carry. -/
namespace Go.Proofs.YtenjpmegnjdobaaDoor
open Go.RowKit Go.Cour
theorem foldl_succ' {α : Type} (f : α → Nat → α) (s : α) (n : Nat) : (List.range (n + 1)).foldl f s = f ((List.range n).foldl f s) n := by
  rw [List.range_succ, List.foldl_append]; rfl
theorem info73 : (Tryd.prog.info? 80).map (·.size) = some 5 := by kernel_rfl
theorem arr73 : Tryd.prog.underlying 80 = some (.array 5 65) := by kernel_rfl
/-- The lowest 26 bits. -/
def low26 (x : Int) : Int := bits .and .u64 x 67108863
theorem low26_eq (x : Int) (h0 : 0 ≤ x) (h1 : x < 18446744073709551616) : low26 x = x % 67108864 :=
  bits_mask .u64 64 (by decide) (fun n h0 h1 => by rw [IntKind.wrap_u64]; omega) 26 (by decide) x h0 (by simpa using h1)
/-- A number of 64 bits. -/
def u64 (x : Int) : Int := IntKind.u64.wrap x
theorem u64_eq (x : Int) : u64 x = x % 18446744073709551616 := by unfold u64; rw [IntKind.wrap_u64]
/-- One part: what was carried is taken in, what is too much is carried on. -/
def carry1 (s : List Int × Int) (i : Nat) : List Int × Int := ((s.1.set i (u64 (rd s.1 i + s.2))).set i (low26 (u64 (rd s.1 i + s.2))), u64 (rd s.1 i + s.2) / 67108864)
def carryTo (xs : List Int) (n : Nat) : List Int × Int := (List.range n).foldl carry1 (xs, 0)
def carryRound (xs : List Int) : List Int := (carryTo xs 5).1.set 0 (u64 (rd (carryTo xs 5).1 0 + u64 (5 * (carryTo xs 5).2)))
def carryN (xs : List Int) (n : Nat) : List Int := (List.range n).foldl (fun s _ => carryRound s) xs
theorem carryTo_succ (xs : List Int) (n : Nat) : carryTo xs (n + 1) = carry1 (carryTo xs n) n := foldl_succ' _ _ _
theorem carryTo_zero (xs : List Int) : carryTo xs 0 = (xs, 0) := rfl
theorem carryN_succ (xs : List Int) (n : Nat) : carryN xs (n + 1) = carryRound (carryN xs n) := foldl_succ' _ _ _
theorem carryN_zero (xs : List Int) : carryN xs 0 = xs := rfl
theorem carryTo_length (xs : List Int) : ∀ n, (carryTo xs n).1.length = xs.length
  | 0 => rfl
  | n + 1 => by rw [carryTo_succ]; simp only [carry1, List.length_set]; exact carryTo_length xs n
theorem carryRound_length (xs : List Int) : (carryRound xs).length = xs.length := by
  simp only [carryRound, List.length_set]; exact carryTo_length xs 5
theorem carryN_length (xs : List Int) : ∀ n, (carryN xs n).length = xs.length
  | 0 => rfl
  | n + 1 => by rw [carryN_succ, carryRound_length]; exact carryN_length xs n
/-- What the blocks of a call of carry hold. -/
structure CS (w wr : World) (xs : List Int) : Prop where
  a : Blk wr w.heap.size 80 (ints .u64 xs)
  r : Blk wr (w.heap.size + 1) 80 (ints .u64 (List.replicate 5 0))
  below : Below w.heap.size w wr
theorem CS.set {w wr : World} {xs : List Int} (h : CS w wr xs) (i : Nat) (x : Int) : CS w (wr.setCell ⟨w.heap.size, i, none⟩ (.int .u64 x)) (xs.set i x) :=
  ⟨h.a.setI i x, h.r.setOther (by simp) _, h.below.setCell (by simp) _⟩
set_option maxHeartbeats 4000000 in
set_option maxRecDepth 100000 in
theorem carry_calls (xs : List Int) (w : World) (hx : xs.length = 5) :
    Calls Tryd.prog 60 #[.agg (ints .u64 xs).toArray] w fun e w' => e = .returned (.agg (ints .u64 (carryN xs 2)).toArray) ∧ Below w.heap.size w w' := by
  have HX := hid hx
  clear hx
  go_enter Tryd.func60, Tryd.ntmps60
  go_wp2_with fail
  go_loopg [5] 2 (fun kq v5 wr => ∃ i : Nat, i ≤ 2 ∧ v5 = .int .i64 i ∧ Hd (kq + i = 2) ∧ CS w wr (carryN xs i))
  case atStart =>
    refine ⟨0, by omega, rfl, hid rfl, ?_, ?_, ?_⟩
    · rw [carryN_zero]; exact (Blk.new w 80 (ints .u64 xs)).alloc _
    · exact Blk.new' (w.alloc _) 80 (ints .u64 (List.replicate 5 0)) _ (by simp)
    · exact ((Below.refl _ _).alloc (Nat.le_refl _) _).alloc (by simp) _
  case round =>
    obtain ⟨i, hi, rfl, hq, hS⟩ := hrel
    by_cases hlt : i < 2
    · have hd1 : decide ((i : Int) < 2) = true := by simp; omega
      go_wp2_with fail
      obtain ⟨wo, rfl⟩ : ∃ wo : World, wo = wr := ⟨_, rfl⟩
      obtain ⟨gk1, hgk⟩ : ∃ g : Nat, Hd (g = gk) := ⟨gk, hid rfl⟩
      have hq1 : Hd (gk1 + i = 2) := hid (by rw [hgk.out]; exact hq.out)
      obtain ⟨X, hX⟩ : ∃ X, Hd (X = carryN xs i) := ⟨_, hid rfl⟩
      have hXl : Hd (X.length = 5) := hid (by rw [hX.out, carryN_length]; exact HX.out)
      rw [← hX.out] at hS
      go_loopg [3, 7] 5 (fun kq v3 v7 wr => ∃ j : Nat, j ≤ 5 ∧ v7 = .int .i64 j ∧ v3 = .int .u64 (carryTo X j).2 ∧ Hd (kq + j = 5) ∧ CS w wr (carryTo X j).1)
      case atStart => exact ⟨0, by omega, rfl, rfl, hid rfl, hS⟩
      case round =>
        clear hS
        obtain ⟨j, hj, rfl, rfl, hq2, hS⟩ := hrel
        obtain ⟨Y, o, hY⟩ : ∃ Y o, Hd ((carryTo X j) = (Y, o)) := ⟨_, _, hid rfl⟩
        rw [hY.out] at hS ⊢
        dsimp only at hS ⊢
        have hYl : Y.length = 5 := by have := carryTo_length X j; rw [hY.out] at this; rw [← hXl.out]; exact this
        by_cases hjlt : j < 5
        · have cj := hS.a.cellI j (by omega)
          have fj := hS.a.frozen j
          have cj2 := (hS.set j (u64 (rd Y j + o))).a.cellI j (by simp; omega)
          have fj2 := (hS.set j (u64 (rd Y j + o))).a.frozen j
          rw [rd_set', if_pos ⟨rfl, by omega⟩] at cj2
          have HYl := hid hYl
          clear hYl
          go_wp2_with fail
          go_roundg (gk - 1)
          case measure => have := hq2.out; omega
          case rel =>
            refine ⟨j + 1, by omega, by go_num, ?_, hid (by have := hq2.out; omega), ?_⟩
            · rw [carryTo_succ, hY.out]; rfl
            · rw [carryTo_succ, hY.out]; exact (hS.set j _).set j _
        · have hj5 : (j : Int) = 5 := by omega
          rw [hj5]
          obtain rfl : j = 5 := by omega
          have c0 := hS.a.cellI 0 (by omega)
          have f0 := hS.a.frozen 0
          have HYl := hid hYl
          clear hYl hjlt hj5 hj
          go_wp2_with fail
          go_roundg (gk1 - 1)
          case measure => have := hq1.out; have := hgk.out; omega
          case rel =>
            refine ⟨i + 1, by omega, by go_num, hid (by have := hq1.out; omega), ?_⟩
            have he : carryN xs (i + 1) = Y.set 0 (u64 (rd Y 0 + u64 (5 * o))) := by
              rw [carryN_succ, ← hX.out, carryRound, hY.out]
            rw [he]
            exact hS.set 0 _
    · obtain rfl : i = 2 := by omega
      have hl5 : (ints .u64 (carryN xs 2)).length = 5 := by rw [ints_length, carryN_length]; exact HX.out
      have HL := hid hl5
      clear hl5 hi hlt
      go_wp2_with (first
        | (refine load_blk rfl 80 _ rfl w.heap.size rfl 80 _ hS.a 5 65 arr73 HL.out info73 ?_)
        | (refine store_blk rfl 80 _ _ rfl (w.heap.size + 1) _ rfl rfl 80 _ hS.r 5 info73 HL.out (by simp) (ints_one _ _) ?_))
      refine bodyPost_ret (results_blk rfl _ _ (w.heap.size + 1) 80 _ 5 65 rfl (hS.r.setRow _) arr73 HL.out info73) rfl ?_
      exact ⟨rfl, below_setRow hS.below (by omega) _⟩
end Go.Proofs.YtenjpmegnjdobaaDoor
/- A tag's arithmetic: a product. -/
namespace Go.Proofs.YtenjpmegnjdobaaDoor
open Go.RowKit Go.Cour
def term (a b : List Int) (i j : Nat) : Int := if 5 ≤ i + j then u64 (u64 (rd a i * rd b j) * 5) else u64 (rd a i * rd b j)
def tinTo (a b : List Int) (i : Nat) (s : List Int) (n : Nat) : List Int := (List.range n).foldl (fun s j => s.set ((i + j) % 5) (u64 (rd s ((i + j) % 5) + term a b i j))) s
def toutTo (a b : List Int) (n : Nat) : List Int := (List.range n).foldl (fun s i => tinTo a b i s 5) (List.replicate 5 0)
def times (a b : List Int) : List Int := carryN (toutTo a b 5) 2
theorem tinTo_succ (a b : List Int) (i : Nat) (s : List Int) (n : Nat) : tinTo a b i s (n + 1) = (tinTo a b i s n).set ((i + n) % 5) (u64 (rd (tinTo a b i s n) ((i + n) % 5) + term a b i n)) := foldl_succ' _ _ _
theorem tinTo_zero (a b : List Int) (i : Nat) (s : List Int) : tinTo a b i s 0 = s := rfl
theorem toutTo_succ (a b : List Int) (n : Nat) : toutTo a b (n + 1) = tinTo a b n (toutTo a b n) 5 := foldl_succ' _ _ _
theorem toutTo_zero (a b : List Int) : toutTo a b 0 = List.replicate 5 0 := rfl
theorem tinTo_length (a b : List Int) (i : Nat) (s : List Int) : ∀ n, (tinTo a b i s n).length = s.length
  | 0 => rfl
  | n + 1 => by rw [tinTo_succ, List.length_set]; exact tinTo_length a b i s n
theorem toutTo_length (a b : List Int) : ∀ n, (toutTo a b n).length = 5
  | 0 => by simp [toutTo_zero]
  | n + 1 => by rw [toutTo_succ, tinTo_length]; exact toutTo_length a b n
theorem times_length (a b : List Int) : (times a b).length = 5 := by rw [times, carryN_length]; exact toutTo_length a b 5
/-- What the blocks of a call of times hold. -/
structure TS (w wr : World) (a b s : List Int) : Prop where
  a : Blk wr w.heap.size 80 (ints .u64 a)
  b : Blk wr (w.heap.size + 1) 80 (ints .u64 b)
  r : Blk wr (w.heap.size + 1 + 1) 80 (ints .u64 (List.replicate 5 0))
  s : Blk wr (w.heap.size + 1 + 1 + 1) 80 (ints .u64 s)
  below : Below w.heap.size w wr
theorem TS.set {w wr : World} {a b s : List Int} (h : TS w wr a b s) (i : Nat) (x : Int) : TS w (wr.setCell ⟨w.heap.size + 1 + 1 + 1, i, none⟩ (.int .u64 x)) a b (s.set i x) :=
  ⟨h.a.setOther (by simp; try omega) _, h.b.setOther (by simp; try omega) _, h.r.setOther (by simp; try omega) _, h.s.setI i x, h.below.setCell (by simp; try omega) _⟩
theorem TS.drewN {w wr : World} {a b s : List Int} (h : TS w wr a b s) (n : Nat) : TS w (wr.drewN n) a b s := ⟨h.a.drewN n, h.b.drewN n, h.r.drewN n, h.s.drewN n, below_drewN h.below n⟩
set_option maxHeartbeats 4000000 in
set_option maxRecDepth 100000 in
theorem times_calls (a b : List Int) (w : World) (ha : a.length = 5) (hb : b.length = 5) :
    Calls Tryd.prog 51 #[.agg (ints .u64 a).toArray, .agg (ints .u64 b).toArray] w fun e w' => e = .returned (.agg (ints .u64 (times a b)).toArray) ∧ Below w.heap.size w w' := by
  have HA := hid ha
  have HB := hid hb
  clear ha hb
  go_enter Tryd.func51, Tryd.ntmps51
  go_wp2_with fail
  go_loopg [9] 5 (fun kq v9 wr => ∃ i : Nat, i ≤ 5 ∧ v9 = .int .i64 i ∧ Hd (kq + i = 5) ∧ TS w wr a b (toutTo a b i))
  case atStart =>
    refine ⟨0, by omega, rfl, hid rfl, ?_, ?_, ?_, ?_, ?_⟩
    · exact (((Blk.new w 80 (ints .u64 a)).alloc _).alloc _).alloc _
    · exact ((Blk.new' (w.alloc _) 80 (ints .u64 b) _ (by simp)).alloc _).alloc _
    · exact (Blk.new' ((w.alloc _).alloc _) 80 (ints .u64 (List.replicate 5 0)) _ (by simp)).alloc _
    · exact Blk.new' (((w.alloc _).alloc _).alloc _) 80 (ints .u64 (List.replicate 5 0)) _ (by simp)
    · exact ((((Below.refl _ _).alloc (Nat.le_refl _) _).alloc (by simp) _).alloc (by simp; omega) _).alloc (by simp; omega) _
  case round =>
    obtain ⟨i, hi, rfl, hq, hS⟩ := hrel
    by_cases hlt : i < 5
    · have hd1 : decide ((i : Int) < 5) = true := by simp; omega
      go_wp2_with fail
      obtain ⟨wo, rfl⟩ : ∃ wo : World, wo = wr := ⟨_, rfl⟩
      obtain ⟨gk1, hgk⟩ : ∃ g : Nat, Hd (g = gk) := ⟨gk, hid rfl⟩
      have hq1 : Hd (gk1 + i = 5) := hid (by rw [hgk.out]; exact hq.out)
      obtain ⟨X, hX⟩ : ∃ X, Hd (X = toutTo a b i) := ⟨_, hid rfl⟩
      have hXl : Hd (X.length = 5) := hid (by rw [hX.out, toutTo_length])
      rw [← hX.out] at hS
      go_loopg [12] 5 (fun kq v12 wr => ∃ j : Nat, j ≤ 5 ∧ v12 = .int .i64 j ∧ Hd (kq + j = 5) ∧ TS w wr a b (tinTo a b i X j))
      case atStart => exact ⟨0, by omega, rfl, hid rfl, by rw [tinTo_zero]; exact hS⟩
      case round =>
        clear hS
        obtain ⟨j, hj, rfl, hq2, hS⟩ := hrel
        obtain ⟨Y, hY⟩ : ∃ Y, Hd (Y = tinTo a b i X j) := ⟨_, hid rfl⟩
        rw [← hY.out] at hS
        have hYl : Hd (Y.length = 5) := hid (by rw [hY.out, tinTo_length]; exact hXl.out)
        by_cases hjlt : j < 5
        · have ca := hS.a.cellI i (by have := HA.out; omega)
          have cb := hS.b.cellI j (by have := HB.out; omega)
          obtain ⟨m, hm, hm5⟩ : ∃ m : Nat, Hd (m = (i + j) % 5) ∧ m < 5 := ⟨_, hid rfl, by omega⟩
          have cs := hS.s.cellI m (by have := hYl.out; omega)
          have fs := hS.s.frozen m
          have a1 : (i : Int) < 5 := by omega
          have a2 : (j : Int) < 5 := by omega
          have a4 : ((i : Int) + (j : Int)) % 5 = (m : Int) := by have := hm.out; omega
          have a5 : (m : Int) < 5 := by omega
          by_cases hs : 5 ≤ i + j
          · have a6 : (5 : Int) ≤ (i : Int) + (j : Int) := by omega
            go_wp2_with fail
            go_quiet (fail)
            go_wp2_with fail
            go_roundg (gk - 1)
            case measure => have := hq2.out; omega
            case rel =>
              refine ⟨j + 1, by omega, by go_num, hid (by have := hq2.out; omega), ?_⟩
              rw [tinTo_succ, ← hY.out, ← hm.out, show term a b i j = u64 (u64 (rd a i * rd b j) * 5) from if_pos hs]
              exact (hS.drewN _).set m _
          · have a6 : ¬ (5 : Int) ≤ (i : Int) + (j : Int) := by omega
            go_wp2_with fail
            go_quiet (fail)
            go_wp2_with fail
            go_roundg (gk - 1)
            case measure => have := hq2.out; omega
            case rel =>
              refine ⟨j + 1, by omega, by go_num, hid (by have := hq2.out; omega), ?_⟩
              rw [tinTo_succ, ← hY.out, ← hm.out, show term a b i j = u64 (rd a i * rd b j) from if_neg hs]
              exact (hS.drewN _).set m _
        · have hj5 : (j : Int) = 5 := by omega
          rw [hj5]
          obtain rfl : j = 5 := by omega
          clear hjlt hj5 hj
          go_wp2_with fail
          go_roundg (gk1 - 1)
          case measure => have := hq1.out; have := hgk.out; omega
          case rel =>
            refine ⟨i + 1, by omega, by go_num, hid (by have := hq1.out; omega), ?_⟩
            rw [toutTo_succ, ← hX.out, ← hY.out]
            exact hS
    · obtain rfl : i = 5 := by omega
      have hl5 : (ints .u64 (toutTo a b 5)).length = 5 := by rw [ints_length, toutTo_length]
      have hl5' : (ints .u64 (times a b)).length = 5 := by rw [ints_length, times_length]
      have HL := hid hl5
      have HL' := hid hl5'
      clear hl5 hl5' hi hlt
      go_wp2_with (first
        | (refine load_blk rfl 80 _ rfl (w.heap.size + 1 + 1 + 1) rfl 80 _ hS.s 5 65 arr73 HL.out info73 ?_)
        | (go_at_call 60; refine (carry_calls (toutTo a b 5) _ (toutTo_length _ _ _)).mono ?_; rintro e wx ⟨rfl, hb⟩)
        | (refine store_blk rfl 80 _ _ rfl (w.heap.size + 1 + 1) _ rfl rfl 80 _ (hS.r.belowAll hb) 5 info73 HL'.out (by simp) (ints_one _ _) ?_))
      refine bodyPost_ret (results_blk rfl _ _ (w.heap.size + 1 + 1) 80 _ 5 65 rfl ((hS.r.belowAll hb).setRow _) arr73 HL'.out info73) rfl ?_
      exact ⟨rfl, below_setRow (below_then hS.below (by have := hS.s.lt; omega) hb) (by omega) _⟩
end Go.Proofs.YtenjpmegnjdobaaDoor
/- A tag's arithmetic: bytes as parts. -/
namespace Go.Proofs.YtenjpmegnjdobaaDoor
open Go.RowKit Go.Cour
attribute [local go_sem] max2_int min2_int
/-- Bit i of bytes, where it stands in its part. -/
def pbit (b : List Int) (i : Nat) : Int := u64 (u64 (bits .and .u8 (rd b (i / 8) / 2 ^ (i % 8)) 1) * 2 ^ (i - 26 * min (i / 26) 4))
def partsTo (b : List Int) (n : Nat) : List Int := (List.range n).foldl (fun s i => s.set (min (i / 26) 4) (bits .or .u64 (rd s (min (i / 26) 4)) (pbit b i))) (List.replicate 5 0)
def parts (b : List Int) : List Int := partsTo b 136
theorem partsTo_succ (b : List Int) (n : Nat) : partsTo b (n + 1) = (partsTo b n).set (min (n / 26) 4) (bits .or .u64 (rd (partsTo b n) (min (n / 26) 4)) (pbit b n)) := foldl_succ' _ _ _
theorem partsTo_zero (b : List Int) : partsTo b 0 = List.replicate 5 0 := rfl
theorem partsTo_length (b : List Int) : ∀ n, (partsTo b n).length = 5
  | 0 => by simp [partsTo_zero]
  | n + 1 => by rw [partsTo_succ, List.length_set]; exact partsTo_length b n
theorem pbit_eq (b : List Int) (i m d r s : Nat) (hm : m = min (i / 26) 4) (hd : d = i / 8) (hr : r = i % 8) (hs : i = 26 * m + s) :
    pbit b i = u64 (u64 (bits .and .u8 (rd b d / 2 ^ r) 1) * 2 ^ s) := by
  have e : i - 26 * min (i / 26) 4 = s := by omega
  rw [pbit, e, ← hd, ← hr]
/-- What the blocks of a call of parts hold. -/
structure PS (w wr : World) (b s : List Int) : Prop where
  b : Blk wr w.heap.size 77 (ints .u8 b)
  r : Blk wr (w.heap.size + 1) 80 (ints .u64 (List.replicate 5 0))
  s : Blk wr (w.heap.size + 1 + 1) 80 (ints .u64 s)
  below : Below w.heap.size w wr
theorem PS.set {w wr : World} {b s : List Int} (h : PS w wr b s) (i : Nat) (x : Int) : PS w (wr.setCell ⟨w.heap.size + 1 + 1, i, none⟩ (.int .u64 x)).drew b (s.set i x) :=
  ⟨(h.b.setOther (by simp; try omega) _).drew, (h.r.setOther (by simp; try omega) _).drew, (h.s.setI i x).drew, (h.below.setCell (by simp; try omega) _).drew⟩
set_option maxHeartbeats 4000000 in
set_option maxRecDepth 100000 in
theorem parts_calls (b : List Int) (w : World) (hb : b.length = 17) :
    Calls Tryd.prog 50 #[.agg (ints .u8 b).toArray] w fun e w' => e = .returned (.agg (ints .u64 (parts b)).toArray) ∧ Below w.heap.size w w' := by
  have HB := hid hb
  clear hb
  go_enter Tryd.func50, Tryd.ntmps50
  go_wp2_with fail
  go_loopg [5] 136 (fun kq v5 wr => ∃ i : Nat, i ≤ 136 ∧ v5 = .int .i64 i ∧ Hd (kq + i = 136) ∧ PS w wr b (partsTo b i))
  case atStart =>
    refine ⟨0, by omega, rfl, hid rfl, ?_, ?_, ?_, ?_⟩
    · exact ((Blk.new w 77 (ints .u8 b)).alloc _).alloc _
    · exact (Blk.new' (w.alloc _) 80 (ints .u64 (List.replicate 5 0)) _ (by simp)).alloc _
    · exact Blk.new' ((w.alloc _).alloc _) 80 (ints .u64 (List.replicate 5 0)) _ (by simp)
    · exact (((Below.refl _ _).alloc (Nat.le_refl _) _).alloc (by simp) _).alloc (by simp; omega) _
  case round =>
    obtain ⟨i, hi, rfl, hq, hS⟩ := hrel
    by_cases hlt : i < 136
    · obtain ⟨m, hm, hm5⟩ : ∃ m : Nat, Hd (m = min (i / 26) 4) ∧ m < 5 := ⟨_, hid rfl, by omega⟩
      obtain ⟨q, hq26⟩ : ∃ q : Nat, Hd (q = i / 26) := ⟨_, hid rfl⟩
      obtain ⟨d, hd, hd17⟩ : ∃ d : Nat, Hd (d = i / 8) ∧ d < 17 := ⟨_, hid rfl, by omega⟩
      obtain ⟨r, hr, hr8⟩ : ∃ r : Nat, Hd (r = i % 8) ∧ r < 8 := ⟨_, hid rfl, by omega⟩
      obtain ⟨s, hs, hs64⟩ : ∃ s : Nat, Hd (i = 26 * m + s) ∧ s < 64 := ⟨i - 26 * m, hid (by have := hm.out; omega), by have := hm.out; omega⟩
      have cb := hS.b.cellI d (by have := HB.out; omega)
      have cs := hS.s.cellI m (by rw [partsTo_length]; exact hm5)
      have fs := hS.s.frozen m
      have he : Hd (partsTo b (i + 1) = (partsTo b i).set m (bits .or .u64 (rd (partsTo b i) m) (u64 (u64 (bits .and .u8 (rd b d / 2 ^ r) 1) * 2 ^ s)))) := hid (by
        rw [partsTo_succ, ← hm.out, pbit_eq b i m d r s hm.out hd.out hr.out hs.out])
      obtain ⟨Y, hY⟩ : ∃ Y, Hd (Y = partsTo b i) := ⟨_, hid rfl⟩
      rw [← hY.out] at hS cs he
      go_wp2_with fail
      have a1 : IntKind.i64.wrap ((i : Int) / 26) = (q : Int) := by
        have := hq26.out
        rw [IntWalk.i64_in _ (by omega)]
        omega
      have a2 : (if (4 : Int) < (q : Int) then (4 : Int) else (q : Int)) = (m : Int) := by
        have := hq26.out
        have := hm.out
        split <;> omega
      have a3 : IntKind.i64.wrap ((i : Int) / 8) = (d : Int) := by
        have := hd.out
        rw [IntWalk.i64_in _ (by omega)]
        omega
      have a4 : (i : Int).tmod 8 = (r : Int) := by
        have := hr.out
        rw [Int.tmod_eq_emod_of_nonneg (by omega)]
        omega
      have a5 : IntKind.i64.wrap (26 * (m : Int)) = 26 * (m : Int) := IntWalk.i64_in _ (by omega)
      have a6 : IntKind.i64.wrap ((i : Int) - 26 * (m : Int)) = (s : Int) := by
        have := hs.out
        rw [IntWalk.i64_in _ (by omega)]
        omega
      have a7 : (s : Int) ≤ 64 := by omega
      have a8 : (r : Int) ≤ 8 := by omega
      have a9 : (m : Int) < 5 := by omega
      have a10 : (d : Int) < 17 := by omega
      refine wp_region_still_tail 23 (by kernel_rfl) (by kernel_rfl) ?_
      simp only [List.take_succ_cons, List.take_zero, List.drop_succ_cons, List.drop_zero]
      change wpStill _ _ (World.drew _) (fun a' => wpList _ _ _ _ a' (World.drew _)) _ _
      repeat still_step
      refine wpStill_nil ?_
      change wpList _ _ _ _ _ _
      clear a1 a2 a3 a4 a5 a6 a7 a8 a9 a10
      go_wp2_with fail
      go_roundg (gk - 1)
      case measure => have := hq.out; omega
      case rel =>
        refine ⟨i + 1, by omega, by go_num, hid (by have := hq.out; omega), ?_⟩
        rw [he.out]
        exact hS.set m _
    · obtain rfl : i = 136 := by omega
      have hl5 : (ints .u64 (partsTo b 136)).length = 5 := by rw [ints_length, partsTo_length]
      have HL := hid hl5
      clear hl5 hi hlt
      go_wp2_with (first
        | (refine load_blk rfl 80 _ rfl (w.heap.size + 1 + 1) rfl 80 _ hS.s 5 65 arr73 HL.out info73 ?_)
        | (refine store_blk rfl 80 _ _ rfl (w.heap.size + 1) _ rfl rfl 80 _ hS.r 5 info73 HL.out (by simp) (ints_one _ _) ?_))
      refine bodyPost_ret (results_blk rfl _ _ (w.heap.size + 1) 80 _ 5 65 rfl (hS.r.setRow _) arr73 HL.out info73) rfl ?_
      exact ⟨rfl, below_setRow hS.below (by omega) _⟩
end Go.Proofs.YtenjpmegnjdobaaDoor
/- A tag's arithmetic: the least 128 bits of a number below the modulus. -/
namespace Go.Proofs.YtenjpmegnjdobaaDoor
open Go.RowKit Go.Cour
def more5 (a : List Int) : List Int × Int := carryTo (a.set 0 (u64 (rd a 0 + 5))) 5
def lowA (a : List Int) : List Int := if 0 < (more5 (carryN a 2)).2 then (more5 (carryN a 2)).1 else carryN a 2
def lowL (x : List Int) : Int := bits .or .u64 (bits .or .u64 (rd x 0) (u64 (rd x 1 * 67108864))) (u64 (rd x 2 * 4503599627370496))
def lowH (x : List Int) : Int := bits .or .u64 (bits .or .u64 (rd x 2 / 4096) (u64 (rd x 3 * 16384))) (u64 (rd x 4 * 1099511627776))
/-- What the blocks of a call of low hold. -/
structure LS (w wr : World) (H : Nat) (a m : List Int) : Prop where
  a : Blk wr w.heap.size 80 (ints .u64 a)
  m : Blk wr H 80 (ints .u64 m)
  below : Below w.heap.size w wr
  lt : w.heap.size < H
theorem LS.set {w wr : World} {H : Nat} {a m : List Int} (h : LS w wr H a m) (i : Nat) (x : Int) : LS w (wr.setCell ⟨H, i, none⟩ (.int .u64 x)) H a (m.set i x) :=
  ⟨h.a.setOther (by have := h.lt; simp; try omega) _, h.m.setI i x, h.below.setCell (by have := h.lt; simp; try omega) _, h.lt⟩
/-- The world when the second copy is laid. -/
def lowW (w wx : World) (C : List Int) : World := ((wx.setRow w.heap.size (ints .u64 C).toArray).alloc (.cells #[.int .u64 0, .int .u64 0, .int .u64 0, .int .u64 0, .int .u64 0] 80)).setRow wx.heap.size (ints .u64 C).toArray
theorem LS.start {w wx : World} {a C : List Int} (hb : Below (w.alloc (.cells (ints .u64 a).toArray 80)).heap.size (w.alloc (.cells (ints .u64 a).toArray 80)) wx) : LS w (lowW w wx C) wx.heap.size C C := by
  have h0 : Blk (w.alloc (.cells (ints .u64 a).toArray 80)) w.heap.size 80 (ints .u64 a) := Blk.new w 80 _
  have hs := hb.size
  simp at hs
  refine ⟨?_, ?_, ?_, by omega⟩
  · exact (((h0.belowAll hb).setRow _).alloc _).setRowOther (by omega) _
  · exact (Blk.new' (wx.setRow w.heap.size (ints .u64 C).toArray) 80 (ints .u64 (List.replicate 5 0)) _ (by simp)).setRow _
  · refine below_setRow ((below_setRow (below_then (((Below.refl _ _).alloc (Nat.le_refl _) _)) (by simp) hb) (Nat.le_refl _) _).alloc (by simp; omega) _) (by omega) _
theorem LS.cell0 {w wx : World} {a : List Int} (C : List Int) (hb : Below (w.alloc (.cells (ints .u64 a).toArray 80)).heap.size (w.alloc (.cells (ints .u64 a).toArray 80)) wx) (hC : C.length = 5) :
    (((wx.setRow w.heap.size (ints .u64 C).toArray).alloc (.cells #[.int .u64 0, .int .u64 0, .int .u64 0, .int .u64 0, .int .u64 0] 80)).setRow wx.heap.size (ints .u64 C).toArray).cell? ⟨wx.heap.size, 0, none⟩ = some (.int .u64 (rd C 0)) := (LS.start hb (C := C)).m.cellI 0 (by omega)
theorem LS.frozen0 {w wx : World} {a : List Int} (C : List Int) (hb : Below (w.alloc (.cells (ints .u64 a).toArray 80)).heap.size (w.alloc (.cells (ints .u64 a).toArray 80)) wx) :
    (((wx.setRow w.heap.size (ints .u64 C).toArray).alloc (.cells #[.int .u64 0, .int .u64 0, .int .u64 0, .int .u64 0, .int .u64 0] 80)).setRow wx.heap.size (ints .u64 C).toArray).frozen? ⟨wx.heap.size, 0, none⟩ = false := (LS.start hb (C := C)).m.frozen 0
set_option maxHeartbeats 4000000 in
set_option maxRecDepth 100000 in
theorem low_calls (a : List Int) (w : World) (ha : a.length = 5) :
    Calls Tryd.prog 52 #[.agg (ints .u64 a).toArray] w fun e w' => e = .returned (.tuple #[.int .u64 (lowL (lowA a)), .int .u64 (lowH (lowA a))]) ∧ Below w.heap.size w w' := by
  have HA := hid ha
  have hl5 : (ints .u64 a).length = 5 := by rw [ints_length]; exact ha
  have HL := hid hl5
  clear ha hl5
  have hb0 : Blk (w.alloc (.cells (ints .u64 a).toArray 80)) w.heap.size 80 (ints .u64 a) := Blk.new w 80 _
  obtain ⟨C, hC⟩ : ∃ C, Hd (C = carryN a 2) := ⟨_, hid rfl⟩
  have HC : Hd ((ints .u64 C).length = 5) := hid (by rw [ints_length, hC.out, carryN_length]; exact HA.out)
  have hC5 : Hd (C.length = 5) := hid (by rw [hC.out, carryN_length]; exact HA.out)
  go_enter Tryd.func52, Tryd.ntmps52
  go_wp2_with (first
    | (refine load_blk rfl 80 (.tmp 1) rfl w.heap.size rfl 80 _ hb0 5 65 arr73 HL.out info73 ?_)
    | (go_at_call 60; refine (carry_calls a _ HA.out).mono ?_; rintro e wx ⟨rfl, hb⟩; rw [← hC.out])
    | (refine store_blk rfl 80 (.tmp 1) (.tmp 8) rfl w.heap.size _ rfl rfl 80 _ (hb0.belowAll hb) 5 info73 HC.out HL.out (ints_one _ _) ?_)
    | (refine load_blk rfl 80 (.tmp 1) rfl w.heap.size rfl 80 _ ((hb0.belowAll hb).setRow (ints .u64 C)) 5 65 arr73 HC.out info73 ?_)
    | (refine store_blk rfl 80 (.tmp 4) (.tmp 9) rfl _ _ rfl rfl 80 _ (Blk.new' _ _ (ints .u64 (List.replicate 5 0)) _ (by simp)) 5 info73 HC.out (by simp) (ints_one _ _) ?_; have c0 := LS.cell0 C hb hC5.out; have f0 := LS.frozen0 C hb)
    | fail)
  have hS := (LS.start hb (C := C)).set 0 (u64 (rd C 0 + 5))
  unfold lowW at hS
  clear c0 f0 hb hb0 HL
  obtain ⟨M, hM⟩ : ∃ M, Hd (M = C.set 0 (u64 (rd C 0 + 5))) := ⟨_, hid rfl⟩
  have hMl : Hd (M.length = 5) := hid (by rw [hM.out, List.length_set]; exact hC5.out)
  rw [← hM.out] at hS
  obtain ⟨H, hH⟩ : ∃ H, H = wx.heap.size := ⟨_, rfl⟩
  rw [← hH] at hS ⊢
  clear hH
  go_loopg [5, 14] 5 (fun kq v5 v14 wr => ∃ j : Nat, j ≤ 5 ∧ v14 = .int .i64 j ∧ v5 = .int .u64 (carryTo M j).2 ∧ Hd (kq + j = 5) ∧ LS w wr H C (carryTo M j).1)
  case atStart => exact ⟨0, by omega, rfl, rfl, hid rfl, hS⟩
  case round =>
    clear hS
    obtain ⟨j, hj, rfl, rfl, hq2, hS⟩ := hrel
    obtain ⟨Y, o, hY⟩ : ∃ Y o, Hd ((carryTo M j) = (Y, o)) := ⟨_, _, hid rfl⟩
    rw [hY.out] at hS ⊢
    dsimp only at hS ⊢
    have hYl : Y.length = 5 := by have := carryTo_length M j; rw [hY.out] at this; rw [← hMl.out]; exact this
    by_cases hjlt : j < 5
    · have cj := hS.m.cellI j (by omega)
      have fj := hS.m.frozen j
      have cj2 := (hS.set j (u64 (rd Y j + o))).m.cellI j (by simp; omega)
      have fj2 := (hS.set j (u64 (rd Y j + o))).m.frozen j
      rw [rd_set', if_pos ⟨rfl, by omega⟩] at cj2
      have HYl := hid hYl
      clear hYl
      go_wp2_with fail
      go_roundg (gk - 1)
      case measure => have := hq2.out; omega
      case rel =>
        refine ⟨j + 1, by omega, by go_num, ?_, hid (by have := hq2.out; omega), ?_⟩
        · rw [carryTo_succ, hY.out]; rfl
        · rw [carryTo_succ, hY.out]; exact (hS.set j _).set j _
    · obtain rfl : j = 5 := by omega
      have HYl : Hd ((ints .u64 Y).length = 5) := hid (by rw [ints_length]; exact hYl)
      have hY5 := hid hYl
      clear hYl hjlt hj
      have hlow : Hd (lowA a = if 0 < o then Y else C) := hid (by
        rw [lowA, more5, ← hC.out, ← hM.out, hY.out])
      by_cases ho : 0 < o
      · have c0 := (hS.a.setRow (ints .u64 Y)).cellI 0 (by have := hY5.out; omega)
        have c1 := (hS.a.setRow (ints .u64 Y)).cellI 1 (by have := hY5.out; omega)
        have c2 := (hS.a.setRow (ints .u64 Y)).cellI 2 (by have := hY5.out; omega)
        have c3 := (hS.a.setRow (ints .u64 Y)).cellI 3 (by have := hY5.out; omega)
        have c4 := (hS.a.setRow (ints .u64 Y)).cellI 4 (by have := hY5.out; omega)
        have hcl : Hd (lowA a = Y) := hid (by rw [hlow.out, if_pos ho])
        go_wp2_with (first
          | (refine load_blk rfl 80 (.tmp 4) rfl H rfl 80 _ hS.m 5 65 arr73 HYl.out info73 ?_)
          | (refine store_blk rfl 80 (.tmp 1) (.tmp 35) rfl w.heap.size _ rfl rfl 80 _ hS.a 5 info73 HYl.out HC.out (ints_one _ _) ?_)
          | fail)
        go_quiet (fail)
        go_wp2_with fail
        go_ret2
        rw [hcl.out]
        exact ⟨rfl, below_drewN (below_setRow hS.below (Nat.le_refl _) _) _⟩
      · have c0 := hS.a.cellI 0 (by have := hC5.out; omega)
        have c1 := hS.a.cellI 1 (by have := hC5.out; omega)
        have c2 := hS.a.cellI 2 (by have := hC5.out; omega)
        have c3 := hS.a.cellI 3 (by have := hC5.out; omega)
        have c4 := hS.a.cellI 4 (by have := hC5.out; omega)
        have hcl : Hd (lowA a = C) := hid (by rw [hlow.out, if_neg ho])
        go_wp2_with fail
        go_quiet (fail)
        go_wp2_with fail
        go_ret2
        rw [hcl.out]
        exact ⟨rfl, below_drewN hS.below _⟩
end Go.Proofs.YtenjpmegnjdobaaDoor
/- A tag of bytes, by a key that is used once. -/
namespace Go.Proofs.YtenjpmegnjdobaaDoor
open Go.RowKit Go.Cour
attribute [local go_sem] max2_int min2_int
def clampA (s : List Int) (n : Nat) : List Int := (List.range n).foldl (fun s i => s.set (4 * i + 3) (bits .and .u8 (rd s (4 * i + 3)) 15)) s
def clampB (s : List Int) (n : Nat) : List Int := (List.range n).foldl (fun s i => s.set (4 * i + 4) (bits .and .u8 (rd s (4 * i + 4)) 252)) s
def rbytes (key : List Int) : List Int := clampB (clampA (key.take 16 ++ [0]) 4) 3
theorem clampA_succ (s : List Int) (n : Nat) : clampA s (n + 1) = (clampA s n).set (4 * n + 3) (bits .and .u8 (rd (clampA s n) (4 * n + 3)) 15) := foldl_succ' _ _ _
theorem clampB_succ (s : List Int) (n : Nat) : clampB s (n + 1) = (clampB s n).set (4 * n + 4) (bits .and .u8 (rd (clampB s n) (4 * n + 4)) 252) := foldl_succ' _ _ _
theorem clampA_length (s : List Int) : ∀ n, (clampA s n).length = s.length
  | 0 => rfl
  | n + 1 => by rw [clampA_succ, List.length_set]; exact clampA_length s n
theorem clampB_length (s : List Int) : ∀ n, (clampB s n).length = s.length
  | 0 => rfl
  | n + 1 => by rw [clampB_succ, List.length_set]; exact clampB_length s n
theorem info69 : (Tryd.prog.info? 77).map (·.size) = some 17 := by kernel_rfl
theorem arr69 : Tryd.prog.underlying 77 = some (.array 17 5) := by kernel_rfl
theorem info46 : (Tryd.prog.info? 57).map (·.size) = some 16 := by kernel_rfl
theorem arr46 : Tryd.prog.underlying 57 = some (.array 16 5) := by kernel_rfl
theorem sizeU8 : (Tryd.prog.info? 5).map (·.size) = some 1 := by kernel_rfl
theorem undBytesP : Tryd.prog.underlying 24 = some (.slice 5) := by kernel_rfl
theorem ix4 (i p : Nat) (h : i < 4) (hp : p = 4 * i + 3) (w : World) : (Instr.index 78 (.agg #[.int .i64 3, .int .i64 7, .int .i64 11, .int .i64 15]) (.int .i64 i)).run Tryd.prog w = .ok (.int .i64 p) w := by
  have h0 : (Instr.index 78 (.agg #[.int .i64 3, .int .i64 7, .int .i64 11, .int .i64 15]) (.int .i64 (0 : Nat))).run Tryd.prog w = .ok (.int .i64 (3 : Nat)) w := by kernel_rfl
  have h1 : (Instr.index 78 (.agg #[.int .i64 3, .int .i64 7, .int .i64 11, .int .i64 15]) (.int .i64 (1 : Nat))).run Tryd.prog w = .ok (.int .i64 (7 : Nat)) w := by kernel_rfl
  have h2 : (Instr.index 78 (.agg #[.int .i64 3, .int .i64 7, .int .i64 11, .int .i64 15]) (.int .i64 (2 : Nat))).run Tryd.prog w = .ok (.int .i64 (11 : Nat)) w := by kernel_rfl
  have h3 : (Instr.index 78 (.agg #[.int .i64 3, .int .i64 7, .int .i64 11, .int .i64 15]) (.int .i64 (3 : Nat))).run Tryd.prog w = .ok (.int .i64 (15 : Nat)) w := by kernel_rfl
  subst hp
  have h4 : i = 0 ∨ i = 1 ∨ i = 2 ∨ i = 3 := by omega
  rcases h4 with rfl | rfl | rfl | rfl
  · exact h0
  · exact h1
  · exact h2
  · exact h3
theorem ix3 (i p : Nat) (h : i < 3) (hp : p = 4 * i + 4) (w : World) : (Instr.index 79 (.agg #[.int .i64 4, .int .i64 8, .int .i64 12]) (.int .i64 i)).run Tryd.prog w = .ok (.int .i64 p) w := by
  have h0 : (Instr.index 79 (.agg #[.int .i64 4, .int .i64 8, .int .i64 12]) (.int .i64 (0 : Nat))).run Tryd.prog w = .ok (.int .i64 (4 : Nat)) w := by kernel_rfl
  have h1 : (Instr.index 79 (.agg #[.int .i64 4, .int .i64 8, .int .i64 12]) (.int .i64 (1 : Nat))).run Tryd.prog w = .ok (.int .i64 (8 : Nat)) w := by kernel_rfl
  have h2 : (Instr.index 79 (.agg #[.int .i64 4, .int .i64 8, .int .i64 12]) (.int .i64 (2 : Nat))).run Tryd.prog w = .ok (.int .i64 (12 : Nat)) w := by kernel_rfl
  subst hp
  have h4 : i = 0 ∨ i = 1 ∨ i = 2 := by omega
  rcases h4 with rfl | rfl | rfl
  · exact h0
  · exact h1
  · exact h2
/-- An element of an array value. -/
theorem ix5 (xs : List Int) (i : Nat) (h : i < 5) (hx : xs.length = 5) (w : World) : (Instr.index 80 (.agg (ints .u64 xs).toArray) (.int .i64 i)).run Tryd.prog w = .ok (.int .u64 (rd xs i)) w := by
  match xs, hx with
  | [x0, x1, x2, x3, x4], _ =>
    have h0 : (Instr.index 80 (.agg (ints .u64 [x0, x1, x2, x3, x4]).toArray) (.int .i64 (0 : Nat))).run Tryd.prog w = .ok (.int .u64 (rd [x0, x1, x2, x3, x4] 0)) w := by kernel_rfl
    have h1 : (Instr.index 80 (.agg (ints .u64 [x0, x1, x2, x3, x4]).toArray) (.int .i64 (1 : Nat))).run Tryd.prog w = .ok (.int .u64 (rd [x0, x1, x2, x3, x4] 1)) w := by kernel_rfl
    have h2 : (Instr.index 80 (.agg (ints .u64 [x0, x1, x2, x3, x4]).toArray) (.int .i64 (2 : Nat))).run Tryd.prog w = .ok (.int .u64 (rd [x0, x1, x2, x3, x4] 2)) w := by kernel_rfl
    have h3 : (Instr.index 80 (.agg (ints .u64 [x0, x1, x2, x3, x4]).toArray) (.int .i64 (3 : Nat))).run Tryd.prog w = .ok (.int .u64 (rd [x0, x1, x2, x3, x4] 3)) w := by kernel_rfl
    have h4 : (Instr.index 80 (.agg (ints .u64 [x0, x1, x2, x3, x4]).toArray) (.int .i64 (4 : Nat))).run Tryd.prog w = .ok (.int .u64 (rd [x0, x1, x2, x3, x4] 4)) w := by kernel_rfl
    have hh : i = 0 ∨ i = 1 ∨ i = 2 ∨ i = 3 ∨ i = 4 := by omega
    rcases hh with rfl | rfl | rfl | rfl | rfl
    · exact h0
    · exact h1
    · exact h2
    · exact h3
    · exact h4
/-- What the blocks of a call of Sum hold: the key, the tag, r. -/
structure SS (w wr : World) (key r : List Int) : Prop where
  k : Blk wr w.heap.size 23 (ints .u8 key)
  t : Blk wr (w.heap.size + 1) 57 (ints .u8 (List.replicate 16 0))
  r : Blk wr (w.heap.size + 1 + 1) 77 (ints .u8 r)
  below : Below w.heap.size w wr
  size : w.heap.size + 1 + 1 < wr.heap.size
theorem SS.set {w wr : World} {key r : List Int} (h : SS w wr key r) (i : Nat) (x : Int) : SS w (wr.setCell ⟨w.heap.size + 1 + 1, i, none⟩ (.int .u8 x)) key (r.set i x) :=
  ⟨h.k.setOther (by simp; try omega) _, h.t.setOther (by simp; try omega) _, h.r.setI i x, h.below.setCell (by simp; try omega) _, by simpa [World.setCell] using h.size⟩
theorem SS.row {w wr : World} {key r : List Int} (h : SS w wr key r) (r' : List Int) : SS w (wr.setRow (w.heap.size + 1 + 1) (ints .u8 r').toArray) key r' :=
  ⟨h.k.setRowOther (by omega) _, h.t.setRowOther (by omega) _, h.r.setRow _, below_setRow h.below (by omega) _, by simpa using h.size⟩
theorem SS.drew {w wr : World} {key r : List Int} (h : SS w wr key r) : SS w wr.drew key r := ⟨h.k.drew, h.t.drew, h.r.drew, h.below.drew, h.size⟩
theorem rcopy_eq (key : List Int) : (key.take 16).take 16 ++ (List.replicate 17 (0 : Int)).drop 16 = key.take 16 ++ [0] := by
  rw [List.take_take]; rfl
/-- One block of bytes, with its one behind. -/
def blockOf (ys : List Int) : List Int := (ys.take (min ys.length 16) ++ (List.replicate 17 0).drop (min ys.length 16)).set (min ys.length 16) 1
theorem blockOf_length (ys : List Int) : (blockOf ys).length = 17 := by simp [blockOf]; omega
def addTo (s p : List Int) (n : Nat) : List Int := (List.range n).foldl (fun s i => s.set i (u64 (rd s i + rd p i))) s
def absorb (s p ys : List Int) : List Int := times (addTo s (parts (blockOf ys)) 5) p
def sumTo (p bs : List Int) (n : Nat) : List Int := (List.range n).foldl (fun s j => absorb s p (bs.drop (16 * j))) (List.replicate 5 0)
theorem addTo_succ (s p : List Int) (n : Nat) : addTo s p (n + 1) = (addTo s p n).set n (u64 (rd (addTo s p n) n + rd p n)) := foldl_succ' _ _ _
theorem addTo_zero (s p : List Int) : addTo s p 0 = s := rfl
theorem addTo_length (s p : List Int) : ∀ n, (addTo s p n).length = s.length
  | 0 => rfl
  | n + 1 => by rw [addTo_succ, List.length_set]; exact addTo_length s p n
theorem sumTo_succ (p bs : List Int) (n : Nat) : sumTo p bs (n + 1) = absorb (sumTo p bs n) p (bs.drop (16 * n)) := foldl_succ' _ _ _
theorem sumTo_zero (p bs : List Int) : sumTo p bs 0 = List.replicate 5 0 := rfl
theorem sumTo_length (p bs : List Int) : ∀ n, (sumTo p bs n).length = 5
  | 0 => by simp [sumTo_zero]
  | n + 1 => by rw [sumTo_succ]; exact times_length _ _
def sumOf (p bs : List Int) : List Int := sumTo p bs ((bs.length + 15) / 16)
def halfOf (l h : Int) (i : Nat) : Int := if 8 ≤ i then h else l
def ostep (l h : Int) (key : List Int) (s : List Int × Int) (i : Nat) : List Int × Int :=
  (s.1.set i (u64 (u64 (bits .and .u64 (halfOf l h i / 2 ^ (8 * (i % 8))) 255 + u64 (rd key (16 + i))) + s.2) % 256),
   u64 (u64 (bits .and .u64 (halfOf l h i / 2 ^ (8 * (i % 8))) 255 + u64 (rd key (16 + i))) + s.2) / 256)
def outS (l h : Int) (key : List Int) (n : Nat) : List Int × Int := (List.range n).foldl (ostep l h key) (List.replicate 16 0, 0)
theorem outS_succ (l h : Int) (key : List Int) (n : Nat) : outS l h key (n + 1) = ostep l h key (outS l h key n) n := foldl_succ' _ _ _
theorem outS_zero (l h : Int) (key : List Int) : outS l h key 0 = (List.replicate 16 0, 0) := rfl
theorem outS_length (l h : Int) (key : List Int) : ∀ n, (outS l h key n).1.length = 16
  | 0 => by simp [outS_zero]
  | n + 1 => by rw [outS_succ]; simp only [ostep, List.length_set]; exact outS_length l h key n
/-- The tag of bytes. -/
def polySum (key bs : List Int) : List Int :=
  (outS (lowL (lowA (sumOf (parts (rbytes key)) bs))) (lowH (lowA (sumOf (parts (rbytes key)) bs))) key 16).1
theorem polySum_length (key bs : List Int) : (polySum key bs).length = 16 := outS_length _ _ _ _
/-- What they hold while the tag is laid. -/
structure SO (w wr : World) (H : Nat) (key out : List Int) : Prop where
  k : Blk wr w.heap.size 23 (ints .u8 key)
  t : Blk wr (w.heap.size + 1) 57 (ints .u8 (List.replicate 16 0))
  o : Blk wr H 57 (ints .u8 out)
  below : Below w.heap.size w wr
  lt : w.heap.size + 1 < H
theorem SO.set {w wr : World} {H : Nat} {key out : List Int} (h : SO w wr H key out) (i : Nat) (x : Int) : SO w (wr.setCell ⟨H, i, none⟩ (.int .u8 x)) H key (out.set i x) := by
  have h2 := h.lt
  exact ⟨h.k.setOther (by simp; omega) _, h.t.setOther (by simp; omega) _, h.o.setI i x, h.below.setCell (by simp; omega) _, h2⟩
theorem SO.drewN {w wr : World} {H : Nat} {key out : List Int} (h : SO w wr H key out) (n : Nat) : SO w (wr.drewN n) H key out :=
  ⟨h.k.drewN n, h.t.drewN n, h.o.drewN n, below_drewN h.below n, h.lt⟩
/-- What they hold while the bytes are taken in. -/
structure SM (w wr : World) (G : Nat) (key p s : List Int) : Prop where
  k : Blk wr w.heap.size 23 (ints .u8 key)
  t : Blk wr (w.heap.size + 1) 57 (ints .u8 (List.replicate 16 0))
  p : Blk wr G 80 (ints .u64 p)
  s : Blk wr (G + 1) 80 (ints .u64 s)
  below : Below w.heap.size w wr
  lt : w.heap.size + 1 + 1 < G
  size : G + 1 < wr.heap.size
theorem SM.start {w wr wx : World} {key Z p : List Int} (h : SS w wr key Z) (hb : Below wr.heap.size wr wx) :
    SM w (((wx.alloc (.cells (ints .u64 (List.replicate 5 0)).toArray 80)).setRow wx.heap.size (ints .u64 p).toArray).alloc (.cells (ints .u64 (List.replicate 5 0)).toArray 80)) wx.heap.size key p (List.replicate 5 0) := by
  have h1 := h.size
  have h2 := hb.size
  refine ⟨?_, ?_, ?_, ?_, ?_, by omega, by simp⟩
  · exact (((h.k.belowAll hb).alloc _).setRowOther (by omega) _).alloc _
  · exact (((h.t.belowAll hb).alloc _).setRowOther (by omega) _).alloc _
  · exact ((Blk.new wx 80 _).setRow _).alloc _
  · exact Blk.new' _ 80 _ _ (by simp)
  · exact (below_setRow ((below_then h.below (by omega) hb).alloc (by omega) _) (by omega) _).alloc (by simp; omega) _
theorem SM.tmp {w wr : World} {G : Nat} {key p s : List Int} (h : SM w wr G key p s) (L : List Int) :
    SM w ((wr.alloc (.cells (ints .u8 (List.replicate 17 0)).toArray 77)).setRow wr.heap.size (ints .u8 L).toArray) G key p s := by
  have h1 := h.size
  have h2 := h.lt
  exact ⟨(h.k.alloc _).setRowOther (by omega) _, (h.t.alloc _).setRowOther (by omega) _, (h.p.alloc _).setRowOther (by omega) _, (h.s.alloc _).setRowOther (by omega) _, below_setRow (h.below.alloc (by omega) _) (by omega) _, h2, by simp; omega⟩
theorem SM.setFar {w wr : World} {G : Nat} {key p s : List Int} (h : SM w wr G key p s) (g i : Nat) (v : Value) (hg : G + 1 < g) : SM w (wr.setCell ⟨g, i, none⟩ v) G key p s := by
  have h2 := h.lt
  exact ⟨h.k.setOther (by simp; omega) _, h.t.setOther (by simp; omega) _, h.p.setOther (by simp; omega) _, h.s.setOther (by simp; omega) _, h.below.setCell (by simp; omega) _, h2, by simpa [World.setCell] using h.size⟩
theorem SM.belowAll {w wr wx : World} {G : Nat} {key p s : List Int} (h : SM w wr G key p s) (hb : Below wr.heap.size wr wx) : SM w wx G key p s := by
  have h2 := h.lt
  have h3 := h.size
  have h4 := hb.size
  exact ⟨h.k.belowAll hb, h.t.belowAll hb, h.p.belowAll hb, h.s.belowAll hb, below_then h.below (by omega) hb, h2, by omega⟩
theorem SM.set {w wr : World} {G : Nat} {key p s : List Int} (h : SM w wr G key p s) (i : Nat) (x : Int) : SM w (wr.setCell ⟨G + 1, i, none⟩ (.int .u64 x)) G key p (s.set i x) := by
  have h2 := h.lt
  exact ⟨h.k.setOther (by simp; omega) _, h.t.setOther (by simp; omega) _, h.p.setOther (by simp) _, h.s.setI i x, h.below.setCell (by simp; omega) _, h2, by simpa [World.setCell] using h.size⟩
theorem SM.row {w wr : World} {G : Nat} {key p s : List Int} (h : SM w wr G key p s) (s' : List Int) : SM w (wr.setRow (G + 1) (ints .u64 s').toArray) G key p s' := by
  have h2 := h.lt
  exact ⟨h.k.setRowOther (by omega) _, h.t.setRowOther (by omega) _, h.p.setRowOther (by omega) _, h.s.setRow _, below_setRow h.below (by omega) _, h2, by simpa using h.size⟩
theorem SO.start {w wr wx : World} {G : Nat} {key p s : List Int} (h : SM w wr G key p s) (hb : Below wr.heap.size wr wx) : SO w (wx.alloc (.cells (ints .u8 (List.replicate 16 0)).toArray 57)) wx.heap.size key (List.replicate 16 0) := by
  have h1 := h.belowAll hb
  have h2 := h1.lt
  have h3 := h1.size
  exact ⟨h1.k.alloc _, h1.t.alloc _, Blk.new wx 57 _, h1.below.alloc (by omega) _, by omega⟩
set_option maxHeartbeats 4000000 in
set_option maxRecDepth 100000 in
theorem sum_calls (key bs : List Int) (A : Option Addr) (n c : Nat) (w : World) (hk : key.length = 32) (hn : n = bs.length) (hc : n ≤ c) (hr : Rd w A .u8 bs) (hl : n ≤ 1000000) :
    Calls Tryd.prog 41 #[.agg (ints .u8 key).toArray, .slice A n c] w fun e w' => e = .returned (.agg (ints .u8 (polySum key bs)).toArray) ∧ Below w.heap.size w w' := by
  have HK := hid hk
  have HN := hid hn
  have HR := hid hr
  clear hk hn hr
  have hb0 : SS w (((w.alloc (.cells (ints .u8 key).toArray 23)).alloc (.cells (ints .u8 (List.replicate 16 0)).toArray 57)).alloc (.cells (ints .u8 (List.replicate 17 0)).toArray 77)) key (List.replicate 17 0) := by
    refine ⟨?_, ?_, ?_, ?_, ?_⟩
    · exact ((Blk.new w 23 (ints .u8 key)).alloc _).alloc _
    · exact (Blk.new' (w.alloc _) 57 (ints .u8 (List.replicate 16 0)) _ (by simp)).alloc _
    · exact Blk.new' ((w.alloc _).alloc _) 77 (ints .u8 (List.replicate 17 0)) _ (by simp)
    · exact (((Below.refl _ _).alloc (Nat.le_refl _) _).alloc (by simp) _).alloc (by simp; omega) _
    · simp
  go_enter Tryd.func41, Tryd.ntmps41
  go_wp2_with fail
  refine wp_region_still_tail 2 (by kernel_rfl) (by kernel_rfl) ?_
  simp only [List.take_succ_cons, List.take_zero, List.drop_succ_cons, List.drop_zero]
  change wpStill _ _ (World.drew _) (fun a' => wpList _ _ _ _ a' (World.drew _)) _ _
  repeat still_step
  refine wpStill_nil ?_
  change wpList _ _ _ _ _ _
  refine copy_blk rfl (.tmp 22) (.tmp 23) 24 24 rfl 5 undBytesP sizeU8 (w.heap.size + 1 + 1) 17 17 rfl ⟨w.heap.size, 0, none⟩ 16 32 rfl 77 .u8 (List.replicate 17 0) (key.take 16) 16 hb0.r.drew ((Rd.ofBlk hb0.k).take 16).drew (by have := HK.out; simp; omega) rfl (by simp) ?_
  rw [rcopy_eq]
  have hb1 := hb0.drew.row (key.take 16 ++ [0])
  clear hb0
  obtain ⟨R0, hR0⟩ : ∃ R, Hd (R = key.take 16 ++ [0]) := ⟨_, hid rfl⟩
  have hR0l : Hd (R0.length = 17) := hid (by rw [hR0.out]; have := HK.out; simp; omega)
  rw [← hR0.out] at hb1 ⊢
  go_wp2_with fail
  go_loopg [26] 4 (fun kq v26 wr => ∃ i : Nat, i ≤ 4 ∧ v26 = .int .i64 i ∧ Hd (kq + i = 4) ∧ SS w wr key (clampA R0 i))
  case atStart => exact ⟨0, by omega, rfl, hid rfl, hb1⟩
  case round =>
    clear hb1
    obtain ⟨i, hi, rfl, hq, hS⟩ := hrel
    obtain ⟨Y, hY⟩ : ∃ Y, Hd (Y = clampA R0 i) := ⟨_, hid rfl⟩
    have hYl : Hd (Y.length = 17) := hid (by rw [hY.out, clampA_length]; exact hR0l.out)
    rw [← hY.out] at hS
    by_cases hlt : i < 4
    · obtain ⟨p, hp, hp17⟩ : ∃ p : Nat, Hd (p = 4 * i + 3) ∧ p < 17 := ⟨_, hid rfl, by omega⟩
      have cp := hS.r.cellI p (by have := hYl.out; omega)
      have fp := hS.r.frozen p
      have ix := ix4 i p hlt hp.out
      have a1 : (p : Int) < 17 := by omega
      go_wp2_with fail
      go_roundg (gk - 1)
      case measure => have := hq.out; omega
      case rel =>
        refine ⟨i + 1, by omega, by go_num, hid (by have := hq.out; omega), ?_⟩
        rw [clampA_succ, ← hY.out, ← hp.out]
        exact hS.set p _
    · obtain rfl : i = 4 := by omega
      clear hlt hi
      go_wp2_with fail
      obtain ⟨wo, rfl⟩ : ∃ wo : World, wo = wr := ⟨_, rfl⟩
      go_loopg [36] 3 (fun kq v36 wr => ∃ i : Nat, i ≤ 3 ∧ v36 = .int .i64 i ∧ Hd (kq + i = 3) ∧ SS w wr key (clampB Y i))
      case atStart => exact ⟨0, by omega, rfl, hid rfl, hS⟩
      case round =>
        clear hS
        obtain ⟨i, hi, rfl, hq, hS⟩ := hrel
        obtain ⟨Z, hZ⟩ : ∃ Z, Hd (Z = clampB Y i) := ⟨_, hid rfl⟩
        have hZl : Hd (Z.length = 17) := hid (by rw [hZ.out, clampB_length]; exact hYl.out)
        rw [← hZ.out] at hS
        by_cases hlt : i < 3
        · obtain ⟨p, hp, hp17⟩ : ∃ p : Nat, Hd (p = 4 * i + 4) ∧ p < 17 := ⟨_, hid rfl, by omega⟩
          have cp := hS.r.cellI p (by have := hZl.out; omega)
          have fp := hS.r.frozen p
          have ix := ix3 i p hlt hp.out
          have a1 : (p : Int) < 17 := by omega
          go_wp2_with fail
          go_roundg (gk - 1)
          case measure => have := hq.out; omega
          case rel =>
            refine ⟨i + 1, by omega, by go_num, hid (by have := hq.out; omega), ?_⟩
            rw [clampB_succ, ← hZ.out, ← hp.out]
            exact hS.set p _
        · obtain rfl : i = 3 := by omega
          clear hlt hi
          have hZr : Hd (Z = rbytes key) := hid (by rw [hZ.out, hY.out, hR0.out]; rfl)
          have hZ17 : Hd ((ints .u8 Z).length = 17) := hid (by rw [ints_length]; exact hZl.out)
          have hP5 : Hd ((ints .u64 (parts Z)).length = 5) := hid (by rw [ints_length]; exact partsTo_length _ _)
          go_wp2_with (first
            | (refine load_blk rfl 77 (.tmp 5) rfl (w.heap.size + 1 + 1) rfl 77 _ hS.r 17 5 arr69 hZ17.out info69 ?_)
            | (go_at_call 50; refine (parts_calls Z _ hZl.out).mono ?_; rintro e wx ⟨rfl, hb⟩)
            | (refine store_blk rfl 80 (.tmp 10) (.tmp 46) rfl wx.heap.size _ rfl rfl 80 _ (Blk.new wx 80 (ints .u64 (List.replicate 5 0))) 5 info73 hP5.out (by simp) (ints_one _ _) ?_)
            | fail)
          have hM := SM.start hS hb (p := parts Z)
          clear hS hb hZ17 hP5
          obtain ⟨G, hG⟩ : ∃ H, H = wx.heap.size := ⟨_, rfl⟩
          rw [← hG] at hM ⊢
          clear hG
          obtain ⟨P, hP⟩ : ∃ P, Hd (P = parts Z) := ⟨_, hid rfl⟩
          have hPl : Hd (P.length = 5) := hid (by rw [hP.out]; exact partsTo_length _ _)
          rw [← hP.out] at hM ⊢
          go_loopg [1] (n + 16) (fun kq v1 wr => ∃ (j n' c' : Nat) (A' : Option Addr), v1 = .slice A' n' c' ∧ Hd (kq + 16 * j = n + 16) ∧ n' ≤ n ∧ Hd (n' = n - 16 * j ∧ 16 * j < n + 16) ∧ n' ≤ c' ∧ Hd (Rd w A' .u8 (bs.drop (16 * j))) ∧ SM w wr G key P (sumTo P bs j))
          case atStart => exact ⟨0, n, c, A, rfl, hid rfl, Nat.le_refl _, hid ⟨by omega, by omega⟩, hc, hid HR.out, hM⟩
          case round =>
            clear hM
            obtain ⟨j, n', c', A', rfl, hq, hn', hj, hc', hR, hM⟩ := hrel
            by_cases hlt : 0 < n'
            · have hd1 : decide ((0 : Int) < n') = true := by simp; omega
              obtain ⟨ys, hys⟩ : ∃ ys, Hd (ys = bs.drop (16 * j)) := ⟨_, hid rfl⟩
              have hyl : Hd (ys.length = n') := hid (by rw [hys.out, List.length_drop, ← HN.out]; exact hj.out.1.symm)
              rw [← hys.out] at hR
              obtain ⟨g, o, rfl⟩ := hR.out.at (by rw [hyl.out]; exact hlt)
              obtain ⟨k, hk, hk17⟩ : ∃ k : Nat, Hd (k = min n' 16) ∧ k < 17 := ⟨_, hid rfl, by omega⟩
              have ak : (if (16 : Int) < (n' : Int) then (16 : Int) else (n' : Int)) = (k : Int) := by
                have := hk.out
                split <;> omega
              have ak17 : (k : Int) < 17 := by omega
              obtain ⟨L, hL⟩ : ∃ L, Hd (L = ys.take k ++ (List.replicate 17 (0 : Int)).drop k) := ⟨_, hid rfl⟩
              have hLl : Hd (L.length = 17) := hid (by rw [hL.out]; have := hk.out; have := hyl.out; simp; omega)
              have hLb : Hd (L.set k 1 = blockOf ys) := hid (by rw [hL.out, blockOf, hyl.out, ← hk.out])
              have hL17 : Hd ((ints .u8 (L.set k 1)).length = 17) := hid (by rw [ints_length, List.length_set]; exact hLl.out)
              have hR0 := (Blk.new wr 77 (ints .u8 (List.replicate 17 0)))
              go_wp2_with (first
                | (refine copy_blk rfl (.tmp 55) (.tmp 56) 24 24 rfl 5 undBytesP sizeU8 wr.heap.size 16 17 rfl ⟨g, o, none⟩ n' c' rfl 77 .u8 (List.replicate 17 0) ys k hR0 ((hR.out.below hM.below).alloc _) hyl.out hk.out (by have := hk.out; simp; omega) ?_; rw [← hL.out]; generalize hW : World.setRow _ _ _ = W; have hMW : SM w W G key P (sumTo P bs j) := hW ▸ hM.tmp L; have hxW : Blk W wr.heap.size 77 (ints .u8 L) := hW ▸ hR0.setRow _; clear hW; have cx := hxW.cellI k (by rw [hLl.out]; exact hk17); have fx := hxW.frozen k)
                | (refine load_blk rfl 77 (.tmp 12) rfl wr.heap.size rfl 77 _ (hxW.setI k 1) 17 5 arr69 hL17.out info69 ?_)
                | (go_at_call 50; refine (parts_calls (L.set k 1) _ (by rw [List.length_set]; exact hLl.out)).mono ?_; rintro e wx2 ⟨rfl, hb2⟩)
                | fail)
              have hM2 := (hMW.setFar wr.heap.size k (.int .u8 1) hM.size).belowAll hb2
              clear hM hMW hb2 hxW cx fx hR0 hL17
              obtain ⟨B, hB⟩ : ∃ B, Hd (B = parts (L.set k 1)) := ⟨_, hid rfl⟩
              have hBl : Hd (B.length = 5) := hid (by rw [hB.out]; exact partsTo_length _ _)
              rw [← hB.out]
              obtain ⟨S, hS⟩ : ∃ S, Hd (S = sumTo P bs j) := ⟨_, hid rfl⟩
              have hSl : Hd (S.length = 5) := hid (by rw [hS.out]; exact sumTo_length _ _ _)
              rw [← hS.out] at hM2
              have hSn : Hd (sumTo P bs (j + 1) = times (addTo S B 5) P) := hid (by
                rw [sumTo_succ, ← hS.out, absorb, ← hys.out, ← hLb.out, ← hB.out])
              obtain ⟨gk1, hgk⟩ : ∃ g : Nat, Hd (g = gk) := ⟨gk, hid rfl⟩
              have hq1 : Hd (gk1 + 16 * j = n + 16) := hid (by rw [hgk.out]; exact hq.out)
              obtain ⟨wo2, rfl⟩ : ∃ wo : World, wo = wr := ⟨_, rfl⟩
              go_loopg [61] 5 (fun kq v61 wr => ∃ i : Nat, i ≤ 5 ∧ v61 = .int .i64 i ∧ Hd (kq + i = 5) ∧ SM w wr G key P (addTo S B i))
              case atStart => exact ⟨0, by omega, rfl, hid rfl, by rw [addTo_zero]; exact hM2⟩
              case round =>
                clear hM2
                obtain ⟨i, hi, rfl, hq2, hM⟩ := hrel
                obtain ⟨T, hT⟩ : ∃ T, Hd (T = addTo S B i) := ⟨_, hid rfl⟩
                have hTl : Hd (T.length = 5) := hid (by rw [hT.out, addTo_length]; exact hSl.out)
                rw [← hT.out] at hM
                by_cases hlt5 : i < 5
                · have ci := hM.s.cellI i (by have := hTl.out; omega)
                  have fi := hM.s.frozen i
                  have ix := ix5 B i hlt5 hBl.out
                  have ai : (i : Int) < 5 := by omega
                  go_wp2_with fail
                  go_roundg (gk - 1)
                  case measure => have := hq2.out; omega
                  case rel =>
                    refine ⟨i + 1, by omega, by go_num, hid (by have := hq2.out; omega), ?_⟩
                    rw [addTo_succ, ← hT.out]
                    exact hM.set i _
                · have hi5 : (i : Int) = 5 := by omega
                  rw [hi5]
                  obtain rfl : i = 5 := by omega
                  clear hlt5 hi5 hi
                  have hT5 : Hd ((ints .u64 T).length = 5) := hid (by rw [ints_length]; exact hTl.out)
                  have hP5 : Hd ((ints .u64 P).length = 5) := hid (by rw [ints_length]; exact hPl.out)
                  have hX5 : Hd ((ints .u64 (times T P)).length = 5) := hid (by rw [ints_length]; exact times_length _ _)
                  go_wp2_with (first
                    | (refine load_blk rfl 80 (.tmp 11) rfl (G + 1) rfl 80 _ hM.s 5 65 arr73 hT5.out info73 ?_)
                    | (refine load_blk rfl 80 (.tmp 10) rfl G rfl 80 _ hM.p 5 65 arr73 hP5.out info73 ?_)
                    | (go_at_call 51; refine (times_calls T P _ hTl.out hPl.out).mono ?_; rintro e wx3 ⟨rfl, hb3⟩; have hM3 := hM.belowAll hb3)
                    | (refine store_blk rfl 80 (.tmp 11) (.tmp 74) rfl (G + 1) _ rfl rfl 80 _ hM3.s 5 info73 hX5.out hT5.out (ints_one _ _) ?_)
                    | fail)
                  all_goals
                    go_roundg (gk1 - 16)
                    case measure => have := hq1.out; have := hj.out; have := hgk.out; omega
                    case rel =>
                      have hq1' := hq1.out
                      have hj' := hj.out
                      have hk' := hk.out
                      have hd := hR.out.drop k c' (by rw [hyl.out]; omega) (by rw [hyl.out]; exact hc')
                      have hdr : ys.drop k = bs.drop (16 * (j + 1)) := by
                        rw [hys.out, List.drop_drop]
                        by_cases h16 : n' < 16
                        · rw [List.drop_eq_nil_of_le (by rw [← HN.out]; omega), List.drop_eq_nil_of_le (by rw [← HN.out]; omega)]
                        · rw [show 16 * j + k = 16 * (j + 1) by omega]
                      rw [hdr] at hd
                      refine ⟨j + 1, n' - k, c' - k, _, ?_, hid (by omega), by omega, hid ⟨by omega, by omega⟩, by omega, hid hd, ?_⟩
                      · first
                          | (rw [if_neg (by assumption)]; simp [add_lit]; done)
                          | (rw [if_pos (by assumption)]; simp; done)
                          | (simp [add_lit, *]; done)
                      · rw [hSn.out, ← hT.out]; exact hM3.row _
            · obtain rfl : n' = 0 := by omega
              have hd1 : decide ((0 : Int) < ((0 : Nat) : Int)) = false := by decide
              obtain ⟨S, hS⟩ : ∃ S, Hd (S = sumOf P bs) := ⟨_, hid rfl⟩
              have hSj : Hd (sumTo P bs j = S) := hid (by
                have := hj.out
                rw [hS.out, sumOf, show (bs.length + 15) / 16 = j by rw [← HN.out]; omega])
              have hSl : Hd (S.length = 5) := hid (by rw [← hSj.out]; exact sumTo_length _ _ _)
              have hS5 : Hd ((ints .u64 S).length = 5) := hid (by rw [ints_length]; exact hSl.out)
              rw [hSj.out] at hM
              go_wp2_with (first
                | (refine load_blk rfl 80 (.tmp 11) rfl (G + 1) rfl 80 _ hM.s 5 65 arr73 hS5.out info73 ?_)
                | (go_at_call 52; refine (low_calls S _ hSl.out).mono ?_; rintro e wx2 ⟨rfl, hb2⟩)
                | fail)
              have hO := SO.start hM hb2
              clear hM hb2
              obtain ⟨l, hl_⟩ : ∃ l, Hd (l = lowL (lowA S)) := ⟨_, hid rfl⟩
              obtain ⟨h, hh_⟩ : ∃ h, Hd (h = lowH (lowA S)) := ⟨_, hid rfl⟩
              have hfin : Hd (polySum key bs = (outS l h key 16).1) := hid (by
                rw [polySum, ← hZr.out, ← hP.out, ← hS.out, ← hl_.out, ← hh_.out])
              rw [← hl_.out, ← hh_.out]
              obtain ⟨H, hH⟩ : ∃ H, H = wx2.heap.size := ⟨_, rfl⟩
              rw [← hH] at hO ⊢
              clear hH
              obtain ⟨wo2, rfl⟩ : ∃ wo : World, wo = wr := ⟨_, rfl⟩
              go_loopg [18, 80] 16 (fun kq v18 v80 wr => ∃ i : Nat, i ≤ 16 ∧ v80 = .int .i64 i ∧ v18 = .int .u64 (outS l h key i).2 ∧ Hd (kq + i = 16) ∧ SO w wr H key (outS l h key i).1)
              case atStart => exact ⟨0, by omega, rfl, rfl, hid rfl, hO⟩
              case round =>
                clear hO
                obtain ⟨i, hi, rfl, rfl, hq2, hO⟩ := hrel
                obtain ⟨Yo, ov, hY⟩ : ∃ Y o, Hd (outS l h key i = (Y, o)) := ⟨_, _, hid rfl⟩
                rw [hY.out] at hO ⊢
                dsimp only at hO ⊢
                have hYl : Hd (Yo.length = 16) := hid (by have := outS_length l h key i; rw [hY.out] at this; exact this)
                by_cases hlt16 : i < 16
                · obtain ⟨r, hr, hr8⟩ : ∃ r : Nat, Hd (r = i % 8) ∧ r < 8 := ⟨_, hid rfl, by omega⟩
                  have ck := hO.k.cellI (16 + i) (by have := HK.out; omega)
                  have co := hO.o.cellI i (by have := hYl.out; omega)
                  have fo := hO.o.frozen i
                  have a4 : (i : Int).tmod 8 = (r : Int) := by
                    have := hr.out
                    rw [Int.tmod_eq_emod_of_nonneg (by omega)]
                    omega
                  have a5 : IntKind.i64.wrap (8 * (r : Int)) = 8 * (r : Int) := IntWalk.i64_in _ (by omega)
                  have a8 : 8 * (r : Int) ≤ 64 := by omega
                  have a8' : 0 ≤ 8 * (r : Int) := by omega
                  have a9 : (i : Int) < 16 := by omega
                  have a10 : (16 : Int) + (i : Int) < 32 := by omega
                  have a11 : IntKind.i64.wrap (16 + (i : Int)) = 16 + (i : Int) := IntWalk.i64_in _ (by omega)
                  by_cases h8 : 8 ≤ i
                  · have a12 : (8 : Int) ≤ (i : Int) := by omega
                    have hhalf : Hd (halfOf l h i = h) := hid (if_pos h8)
                    go_wp2_with fail
                    go_quiet (fail)
                    clear a4 a5 a8 a8' a10 a11
                    go_wp2_with fail
                    go_roundg (gk - 1)
                    case measure => have := hq2.out; omega
                    case rel =>
                      refine ⟨i + 1, by omega, by go_num, ?_, hid (by have := hq2.out; omega), ?_⟩
                      · rw [outS_succ, hY.out, ostep, hhalf.out, ← hr.out]; rfl
                      · rw [outS_succ, hY.out, ostep, hhalf.out, ← hr.out]; exact (hO.drewN _).set i _
                  · have a12 : ¬ (8 : Int) ≤ (i : Int) := by omega
                    have hhalf : Hd (halfOf l h i = l) := hid (if_neg h8)
                    go_wp2_with fail
                    go_quiet (fail)
                    clear a4 a5 a8 a8' a10 a11
                    go_wp2_with fail
                    go_roundg (gk - 1)
                    case measure => have := hq2.out; omega
                    case rel =>
                      refine ⟨i + 1, by omega, by go_num, ?_, hid (by have := hq2.out; omega), ?_⟩
                      · rw [outS_succ, hY.out, ostep, hhalf.out, ← hr.out]; rfl
                      · rw [outS_succ, hY.out, ostep, hhalf.out, ← hr.out]; exact (hO.drewN _).set i _
                · obtain rfl : i = 16 := by omega
                  clear hlt16 hi
                  have hl16 : Hd ((ints .u8 Yo).length = 16) := hid (by rw [ints_length]; exact hYl.out)
                  go_wp2_with (first
                    | (refine load_blk rfl 57 (.tmp 17) rfl H rfl 57 _ hO.o 16 5 arr46 hl16.out info46 ?_)
                    | (refine store_blk rfl 57 (.tmp 4) (.tmp 108) rfl (w.heap.size + 1) _ rfl rfl 57 _ hO.t 16 info46 hl16.out (by simp) (ints_one _ _) ?_)
                    | fail)
                  refine bodyPost_ret (results_blk rfl _ _ (w.heap.size + 1) 57 _ 16 5 rfl (hO.t.setRow _) arr46 hl16.out info46) rfl ?_
                  exact ⟨by rw [hfin.out, hY.out], below_setRow hO.below (by omega) _⟩
end Go.Proofs.YtenjpmegnjdobaaDoor
/- The stream: a word, a turn, a quarter of a round. -/
namespace Go.Proofs.YtenjpmegnjdobaaDoor
open Go.RowKit Go.Cour
/-- x turned to the left by k. -/
def rotl (k : Nat) (x : Int) : Int := bits .or .u32 (x * 2 ^ k % 4294967296) (x / 2 ^ (32 - k))
theorem rotl16_calls (x : Int) (w : World) (h : 0 ≤ x) (h' : x < 4294967296) :
    Calls Tryd.prog 59 #[.int .u32 x, .int .i64 16] w fun e w' => e = .returned (.int .u32 (rotl 16 x)) ∧ w' = w := by
  have b1 : bits .and .u64 16 31 = 16 := by decide
  go_enter Tryd.func59, Tryd.ntmps59
  go_wp2
  go_ret
  exact ⟨rfl, rfl⟩
theorem rotl12_calls (x : Int) (w : World) (h : 0 ≤ x) (h' : x < 4294967296) :
    Calls Tryd.prog 59 #[.int .u32 x, .int .i64 12] w fun e w' => e = .returned (.int .u32 (rotl 12 x)) ∧ w' = w := by
  have b1 : bits .and .u64 12 31 = 12 := by decide
  go_enter Tryd.func59, Tryd.ntmps59
  go_wp2
  go_ret
  exact ⟨rfl, rfl⟩
theorem rotl8_calls (x : Int) (w : World) (h : 0 ≤ x) (h' : x < 4294967296) :
    Calls Tryd.prog 59 #[.int .u32 x, .int .i64 8] w fun e w' => e = .returned (.int .u32 (rotl 8 x)) ∧ w' = w := by
  have b1 : bits .and .u64 8 31 = 8 := by decide
  go_enter Tryd.func59, Tryd.ntmps59
  go_wp2
  go_ret
  exact ⟨rfl, rfl⟩
theorem rotl7_calls (x : Int) (w : World) (h : 0 ≤ x) (h' : x < 4294967296) :
    Calls Tryd.prog 59 #[.int .u32 x, .int .i64 7] w fun e w' => e = .returned (.int .u32 (rotl 7 x)) ∧ w' = w := by
  have b1 : bits .and .u64 7 31 = 7 := by decide
  go_enter Tryd.func59, Tryd.ntmps59
  go_wp2
  go_ret
  exact ⟨rfl, rfl⟩

def qadd (xs : List Int) (a b : Nat) : List Int := xs.set a ((rd xs a + rd xs b) % 4294967296)
def qxor (k : Nat) (xs : List Int) (d a : Nat) : List Int := xs.set d (rotl k (bits .xor .u32 (rd xs d) (rd xs a)))
def quarter (xs : List Int) (a b c d : Nat) : List Int :=
  qxor 7 (qadd (qxor 8 (qadd (qxor 12 (qadd (qxor 16 (qadd xs a b) d a) c d) b c) a b) d a) c d) b c
@[simp] theorem qadd_length (xs : List Int) (a b : Nat) : (qadd xs a b).length = xs.length := by simp [qadd]
@[simp] theorem qxor_length (k : Nat) (xs : List Int) (a b : Nat) : (qxor k xs a b).length = xs.length := by simp [qxor]
@[simp] theorem quarter_length (xs : List Int) (a b c d : Nat) : (quarter xs a b c d).length = xs.length := by simp [quarter]
/-- All are words. -/
def words (xs : List Int) : Prop := ∀ i, 0 ≤ rd xs i ∧ rd xs i < 4294967296
theorem rd_set (xs : List Int) (i j : Nat) (x : Int) : rd (xs.set i x) j = if i = j ∧ j < xs.length then x else rd xs j := by
  unfold rd
  by_cases h : i = j
  · subst h
    by_cases hl : i < xs.length <;> simp [List.getElem?_set, hl]
  · simp [List.getElem?_set_ne h, h]
theorem words_set {xs : List Int} (h : words xs) (i : Nat) {x : Int} (h0 : 0 ≤ x) (h1 : x < 4294967296) : words (xs.set i x) := by
  intro j
  rw [rd_set]
  split
  · exact ⟨h0, h1⟩
  · exact h j
theorem bits_u32_bound (op : BinOp) (x y : Int) : 0 ≤ bits op .u32 x y ∧ bits op .u32 x y < 4294967296 :=
  ⟨(bits_within op .u32 x y).1, by have := (bits_within op .u32 x y).2; have e : IntKind.u32.max = 4294967295 := by decide
                                   omega⟩
theorem rotl_bound (k : Nat) (x : Int) : 0 ≤ rotl k x ∧ rotl k x < 4294967296 := bits_u32_bound _ _ _
theorem words_qadd {xs : List Int} (h : words xs) (a b : Nat) : words (qadd xs a b) := words_set h a (Int.emod_nonneg _ (by decide)) (Int.emod_lt_of_pos _ (by decide))
theorem words_qxor {xs : List Int} (h : words xs) (k a b : Nat) : words (qxor k xs a b) := words_set h a (rotl_bound _ _).1 (rotl_bound _ _).2
theorem words_quarter {xs : List Int} (h : words xs) (a b c d : Nat) : words (quarter xs a b c d) :=
  words_qxor (words_qadd (words_qxor (words_qadd (words_qxor (words_qadd (words_qxor (words_qadd h _ _) _ _ _) _ _) _ _ _) _ _) _ _ _) _ _) _ _ _

set_option maxHeartbeats 4000000 in
set_option maxRecDepth 100000 in
theorem quarter_calls (g a b c d : Nat) (xs : List Int) (w : World) (hx : xs.length = 16) (ha : a < 16) (hb : b < 16) (hc : c < 16) (hd : d < 16) (hg : Blk w g 73 (ints .u32 xs)) (hw : words xs) :
    Calls Tryd.prog 49 #[.pointer (some ⟨g, 0, none⟩), .int .i64 a, .int .i64 b, .int .i64 c, .int .i64 d] w fun e w' => e = .returned (.tuple #[]) ∧ Blk w' g 73 (ints .u32 (quarter xs a b c d)) ∧ Only g w w' := by
  have ia : (a : Int) < 16 := by omega
  have ib : (b : Int) < 16 := by omega
  have ic : (c : Int) < 16 := by omega
  have id : (d : Int) < 16 := by omega
  obtain ⟨x0, HX⟩ : ∃ x, Hd (x = xs) := ⟨xs, hid rfl⟩
  have HL : Hd (x0.length = 16) := hid (by rw [HX.out]; exact hx)
  have HW : Hd (words x0) := hid (by rw [HX.out]; exact hw)
  replace hg : Blk w g 73 (ints .u32 x0) := by rw [HX.out]; exact hg
  clear hx hw
  obtain ⟨w0, HE⟩ : ∃ v, Hd (v = w) := ⟨w, hid rfl⟩
  replace hg : Blk w0 g 73 (ints .u32 x0) := by rw [HE.out]; exact hg
  have HO : Only g w0 w0 := Only.refl g w0
  rw [← HE.out]
  clear HE
  go_enter Tryd.func49, Tryd.ntmps49
  go_wp2
  -- region 0
  have cx := hg.cellI a (by have := HL.out; omega)
  have cy := hg.cellI b (by have := HL.out; omega)
  have fx := hg.frozen a
  refine wp_region_still_tail 13 (by kernel_rfl) (by kernel_rfl) ?_
  simp only [List.take_succ_cons, List.take_zero, List.drop_succ_cons, List.drop_zero]
  change wpStill _ _ (World.drew _) (fun a' => wpList _ _ _ _ a' (World.drew _)) _ _
  repeat still_step
  refine wpStill_nil ?_
  change wpList _ _ _ _ _ _
  go_wp2_with fail
  replace hg : Blk _ g 73 (ints .u32 (qadd x0 a b)) := (hg.setI a ((rd x0 a + rd x0 b) % 4294967296)).drew
  replace HO := (HO.setCell a (.int .u32 ((rd x0 a + rd x0 b) % 4294967296))).drew
  replace HW : Hd (words (qadd x0 a b)) := hid (words_qadd HW.out _ _)
  replace HL : Hd ((qadd x0 a b).length = 16) := hid (by have := HL.out; simpa using this)
  replace HX : Hd (qadd x0 a b = qadd xs a b) := hid (by rw [HX.out])
  clear cx cy fx
  generalize (w0.setCell { block := g, off := a } (.int .u32 ((rd x0 a + rd x0 b) % 4294967296))).drew = w1 at hg HO ⊢
  generalize hx1 : qadd x0 a b = x1 at hg HW HL HX
  clear hx1
  -- region 1
  have cx := hg.cellI d (by have := HL.out; omega)
  have cy := hg.cellI a (by have := HL.out; omega)
  have fx := hg.frozen d
  refine wp_region_still_tail 16 (by kernel_rfl) (by kernel_rfl) ?_
  simp only [List.take_succ_cons, List.take_zero, List.drop_succ_cons, List.drop_zero]
  change wpStill _ _ (World.drew _) (fun a' => wpList _ _ _ _ a' (World.drew _)) _ _
  repeat still_step
  still_call (rotl16_calls _ _ (bits_u32_bound _ _ _).1 (bits_u32_bound _ _ _).2)
  repeat still_step
  refine wpStill_nil ?_
  change wpList _ _ _ _ _ _
  go_wp2_with fail
  replace hg : Blk _ g 73 (ints .u32 (qxor 16 x1 d a)) := (hg.setI d (rotl 16 (bits .xor .u32 (rd x1 d) (rd x1 a)))).drew
  replace HO := (HO.setCell d (.int .u32 (rotl 16 (bits .xor .u32 (rd x1 d) (rd x1 a))))).drew
  replace HW : Hd (words (qxor 16 x1 d a)) := hid (words_qxor HW.out _ _ _)
  replace HL : Hd ((qxor 16 x1 d a).length = 16) := hid (by have := HL.out; simpa using this)
  replace HX : Hd (qxor 16 x1 d a = qxor 16 (qadd xs a b) d a) := hid (by rw [HX.out])
  clear cx cy fx
  generalize (w1.setCell { block := g, off := d } (.int .u32 (rotl 16 (bits .xor .u32 (rd x1 d) (rd x1 a))))).drew = w2 at hg HO ⊢
  generalize hx1 : qxor 16 x1 d a = x2 at hg HW HL HX
  clear hx1
  -- region 2
  have cx := hg.cellI c (by have := HL.out; omega)
  have cy := hg.cellI d (by have := HL.out; omega)
  have fx := hg.frozen c
  refine wp_region_still_tail 13 (by kernel_rfl) (by kernel_rfl) ?_
  simp only [List.take_succ_cons, List.take_zero, List.drop_succ_cons, List.drop_zero]
  change wpStill _ _ (World.drew _) (fun a' => wpList _ _ _ _ a' (World.drew _)) _ _
  repeat still_step
  refine wpStill_nil ?_
  change wpList _ _ _ _ _ _
  go_wp2_with fail
  replace hg : Blk _ g 73 (ints .u32 (qadd x2 c d)) := (hg.setI c ((rd x2 c + rd x2 d) % 4294967296)).drew
  replace HO := (HO.setCell c (.int .u32 ((rd x2 c + rd x2 d) % 4294967296))).drew
  replace HW : Hd (words (qadd x2 c d)) := hid (words_qadd HW.out _ _)
  replace HL : Hd ((qadd x2 c d).length = 16) := hid (by have := HL.out; simpa using this)
  replace HX : Hd (qadd x2 c d = qadd (qxor 16 (qadd xs a b) d a) c d) := hid (by rw [HX.out])
  clear cx cy fx
  generalize (w2.setCell { block := g, off := c } (.int .u32 ((rd x2 c + rd x2 d) % 4294967296))).drew = w3 at hg HO ⊢
  generalize hx1 : qadd x2 c d = x3 at hg HW HL HX
  clear hx1
  -- region 3
  have cx := hg.cellI b (by have := HL.out; omega)
  have cy := hg.cellI c (by have := HL.out; omega)
  have fx := hg.frozen b
  refine wp_region_still_tail 16 (by kernel_rfl) (by kernel_rfl) ?_
  simp only [List.take_succ_cons, List.take_zero, List.drop_succ_cons, List.drop_zero]
  change wpStill _ _ (World.drew _) (fun a' => wpList _ _ _ _ a' (World.drew _)) _ _
  repeat still_step
  still_call (rotl12_calls _ _ (bits_u32_bound _ _ _).1 (bits_u32_bound _ _ _).2)
  repeat still_step
  refine wpStill_nil ?_
  change wpList _ _ _ _ _ _
  go_wp2_with fail
  replace hg : Blk _ g 73 (ints .u32 (qxor 12 x3 b c)) := (hg.setI b (rotl 12 (bits .xor .u32 (rd x3 b) (rd x3 c)))).drew
  replace HO := (HO.setCell b (.int .u32 (rotl 12 (bits .xor .u32 (rd x3 b) (rd x3 c))))).drew
  replace HW : Hd (words (qxor 12 x3 b c)) := hid (words_qxor HW.out _ _ _)
  replace HL : Hd ((qxor 12 x3 b c).length = 16) := hid (by have := HL.out; simpa using this)
  replace HX : Hd (qxor 12 x3 b c = qxor 12 (qadd (qxor 16 (qadd xs a b) d a) c d) b c) := hid (by rw [HX.out])
  clear cx cy fx
  generalize (w3.setCell { block := g, off := b } (.int .u32 (rotl 12 (bits .xor .u32 (rd x3 b) (rd x3 c))))).drew = w4 at hg HO ⊢
  generalize hx1 : qxor 12 x3 b c = x4 at hg HW HL HX
  clear hx1
  -- region 4
  have cx := hg.cellI a (by have := HL.out; omega)
  have cy := hg.cellI b (by have := HL.out; omega)
  have fx := hg.frozen a
  refine wp_region_still_tail 13 (by kernel_rfl) (by kernel_rfl) ?_
  simp only [List.take_succ_cons, List.take_zero, List.drop_succ_cons, List.drop_zero]
  change wpStill _ _ (World.drew _) (fun a' => wpList _ _ _ _ a' (World.drew _)) _ _
  repeat still_step
  refine wpStill_nil ?_
  change wpList _ _ _ _ _ _
  go_wp2_with fail
  replace hg : Blk _ g 73 (ints .u32 (qadd x4 a b)) := (hg.setI a ((rd x4 a + rd x4 b) % 4294967296)).drew
  replace HO := (HO.setCell a (.int .u32 ((rd x4 a + rd x4 b) % 4294967296))).drew
  replace HW : Hd (words (qadd x4 a b)) := hid (words_qadd HW.out _ _)
  replace HL : Hd ((qadd x4 a b).length = 16) := hid (by have := HL.out; simpa using this)
  replace HX : Hd (qadd x4 a b = qadd (qxor 12 (qadd (qxor 16 (qadd xs a b) d a) c d) b c) a b) := hid (by rw [HX.out])
  clear cx cy fx
  generalize (w4.setCell { block := g, off := a } (.int .u32 ((rd x4 a + rd x4 b) % 4294967296))).drew = w5 at hg HO ⊢
  generalize hx1 : qadd x4 a b = x5 at hg HW HL HX
  clear hx1
  -- region 5
  have cx := hg.cellI d (by have := HL.out; omega)
  have cy := hg.cellI a (by have := HL.out; omega)
  have fx := hg.frozen d
  refine wp_region_still_tail 16 (by kernel_rfl) (by kernel_rfl) ?_
  simp only [List.take_succ_cons, List.take_zero, List.drop_succ_cons, List.drop_zero]
  change wpStill _ _ (World.drew _) (fun a' => wpList _ _ _ _ a' (World.drew _)) _ _
  repeat still_step
  still_call (rotl8_calls _ _ (bits_u32_bound _ _ _).1 (bits_u32_bound _ _ _).2)
  repeat still_step
  refine wpStill_nil ?_
  change wpList _ _ _ _ _ _
  go_wp2_with fail
  replace hg : Blk _ g 73 (ints .u32 (qxor 8 x5 d a)) := (hg.setI d (rotl 8 (bits .xor .u32 (rd x5 d) (rd x5 a)))).drew
  replace HO := (HO.setCell d (.int .u32 (rotl 8 (bits .xor .u32 (rd x5 d) (rd x5 a))))).drew
  replace HW : Hd (words (qxor 8 x5 d a)) := hid (words_qxor HW.out _ _ _)
  replace HL : Hd ((qxor 8 x5 d a).length = 16) := hid (by have := HL.out; simpa using this)
  replace HX : Hd (qxor 8 x5 d a = qxor 8 (qadd (qxor 12 (qadd (qxor 16 (qadd xs a b) d a) c d) b c) a b) d a) := hid (by rw [HX.out])
  clear cx cy fx
  generalize (w5.setCell { block := g, off := d } (.int .u32 (rotl 8 (bits .xor .u32 (rd x5 d) (rd x5 a))))).drew = w6 at hg HO ⊢
  generalize hx1 : qxor 8 x5 d a = x6 at hg HW HL HX
  clear hx1
  -- region 6
  have cx := hg.cellI c (by have := HL.out; omega)
  have cy := hg.cellI d (by have := HL.out; omega)
  have fx := hg.frozen c
  refine wp_region_still_tail 13 (by kernel_rfl) (by kernel_rfl) ?_
  simp only [List.take_succ_cons, List.take_zero, List.drop_succ_cons, List.drop_zero]
  change wpStill _ _ (World.drew _) (fun a' => wpList _ _ _ _ a' (World.drew _)) _ _
  repeat still_step
  refine wpStill_nil ?_
  change wpList _ _ _ _ _ _
  go_wp2_with fail
  replace hg : Blk _ g 73 (ints .u32 (qadd x6 c d)) := (hg.setI c ((rd x6 c + rd x6 d) % 4294967296)).drew
  replace HO := (HO.setCell c (.int .u32 ((rd x6 c + rd x6 d) % 4294967296))).drew
  replace HW : Hd (words (qadd x6 c d)) := hid (words_qadd HW.out _ _)
  replace HL : Hd ((qadd x6 c d).length = 16) := hid (by have := HL.out; simpa using this)
  replace HX : Hd (qadd x6 c d = qadd (qxor 8 (qadd (qxor 12 (qadd (qxor 16 (qadd xs a b) d a) c d) b c) a b) d a) c d) := hid (by rw [HX.out])
  clear cx cy fx
  generalize (w6.setCell { block := g, off := c } (.int .u32 ((rd x6 c + rd x6 d) % 4294967296))).drew = w7 at hg HO ⊢
  generalize hx1 : qadd x6 c d = x7 at hg HW HL HX
  clear hx1
  -- region 7
  have cx := hg.cellI b (by have := HL.out; omega)
  have cy := hg.cellI c (by have := HL.out; omega)
  have fx := hg.frozen b
  refine wp_region_still_tail 16 (by kernel_rfl) (by kernel_rfl) ?_
  simp only [List.take_succ_cons, List.take_zero, List.drop_succ_cons, List.drop_zero]
  change wpStill _ _ (World.drew _) (fun a' => wpList _ _ _ _ a' (World.drew _)) _ _
  repeat still_step
  still_call (rotl7_calls _ _ (bits_u32_bound _ _ _).1 (bits_u32_bound _ _ _).2)
  repeat still_step
  refine wpStill_nil ?_
  change wpList _ _ _ _ _ _
  go_wp2_with fail
  replace hg : Blk _ g 73 (ints .u32 (qxor 7 x7 b c)) := (hg.setI b (rotl 7 (bits .xor .u32 (rd x7 b) (rd x7 c)))).drew
  replace HO := (HO.setCell b (.int .u32 (rotl 7 (bits .xor .u32 (rd x7 b) (rd x7 c))))).drew
  replace HW : Hd (words (qxor 7 x7 b c)) := hid (words_qxor HW.out _ _ _)
  replace HL : Hd ((qxor 7 x7 b c).length = 16) := hid (by have := HL.out; simpa using this)
  replace HX : Hd (qxor 7 x7 b c = qxor 7 (qadd (qxor 8 (qadd (qxor 12 (qadd (qxor 16 (qadd xs a b) d a) c d) b c) a b) d a) c d) b c) := hid (by rw [HX.out])
  clear cx cy fx
  generalize (w7.setCell { block := g, off := b } (.int .u32 (rotl 7 (bits .xor .u32 (rd x7 b) (rd x7 c))))).drew = w8 at hg HO ⊢
  generalize hx1 : qxor 7 x7 b c = x8 at hg HW HL HX
  clear hx1
  go_end0
  exact ⟨rfl, by rw [show quarter xs a b c d = x8 from HX.out.symm]; exact hg, HO⟩
end Go.Proofs.YtenjpmegnjdobaaDoor
