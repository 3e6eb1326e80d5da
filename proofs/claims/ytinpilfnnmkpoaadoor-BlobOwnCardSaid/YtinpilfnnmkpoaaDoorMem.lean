/- Laws of memory whose worlds stay letters: a new variable, a slice literal, a struct read whole. -/
import Derived.Test.YtinpilfnnmkpoaaDoorBase
import Derived.Great.BuildSlice
namespace Go.Cour
open Go.RowKit
section
variable {P : Program} {ops : Array Oper} {rest : List Oper} {o : Oper} {a : Act} {w : World} {Q : Exit → Act → World → Prop}
/-- A new variable; its block is the letter g, the world behind it the letter w'. -/
theorem alloc_blk (hgd : o.guard = none) (ty : TypeId) (ho : o.op = .alloc ty) (d : Option Tmp) (hd : o.dst = d) (cs : List Value)
    (hz : ((P.info? ty).bind (·.zero)).map (·.cells) = some cs.toArray)
    (h : ∀ (g : Nat) (w' : World), w.heap.size = g → Blk w' g ty cs → Below w.heap.size w w' → w'.heap.size = g + 1 → wpList P ops Q rest (a.put d (.pointer (some ⟨g, 0, none⟩))) w') :
    wpList P ops Q (o :: rest) a w := by
  subst hd
  have h1 := h w.heap.size (w.alloc (.cells cs.toArray ty)) rfl (Blk.new _ _ _) ((Below.refl _ _).alloc (Nat.le_refl _) _) (by simp)
  refine wpList_plain hgd fun K hK => ?_
  unfold Oper.wp execOp
  cases hi : P.info? ty with
  | none => simp [hi] at hz
  | some i =>
    cases hz0 : i.zero with
    | none => simp [hi, hz0] at hz
    | some z =>
      simp only [hi, hz0, Option.bind_some, Option.map_some, Option.some.injEq] at hz
      simp [ho, Instr.alloc, zeroValue, typeInfo, hi, hz0, newVar, newRow, hz]
      exact hK _ _ h1
/-- A slice literal of whole numbers, each written. -/
theorem literal_blk (hgd : o.guard = none) (t e : TypeId) (len : Nat) (parts : Array (Nat × Operand)) (ho : o.op = .buildSlice t len parts) (d : Option Tmp) (hd : o.dst = d)
    (k : IntKind) (zs : List Int)
    (hu : P.underlying t = some (.slice e)) (hsz : (P.info? e).map (·.size) = some 1) (hz : ((P.info? e).bind (·.zero)).isSome = true)
    (hlen : len = zs.length) (hpos : 0 < len) (hsmall : len ≤ 2 ^ 24)
    (hparts : parts.toList = (zs.zipIdx 0).map fun x => (x.2, Operand.const (Value.int k x.1)))
    (h : ∀ (g : Nat) (w' : World), w.heap.size = g → Blk w' g e (ints k zs) → Below w.heap.size w w' → w'.heap.size = g + 1 → wpList P ops Q rest (a.put d (.slice (some ⟨g, 0, none⟩) len len)) w') :
    wpList P ops Q (o :: rest) a w := by
  subst hd
  exact wpList_buildFlat hgd t e len parts ho k zs hu hsz hz hlen hpos hsmall hparts (h w.heap.size _ rfl (Blk.new _ _ _) ((Below.refl _ _).alloc (Nat.le_refl _) _) (by simp))
/-- A struct read whole out of its block. -/
theorem load_str (hgd : o.guard = none) (ty : TypeId) (x : Operand) (ho : o.op = .load ty x)
    (g : Nat) (hx : a.eval x = .pointer (some ⟨g, 0, none⟩)) (t : TypeId) (cs : List Value) (hg : Blk w g t cs) (fs : _) (hu : P.underlying ty = some (.struct fs))
    (hi : (P.info? ty).map (·.size) = some cs.length)
    (h : wpList P ops Q rest (a.put o.dst (.agg cs.toArray)) w) : wpList P ops Q (o :: rest) a w :=
  wpList_load_row hgd ty x ho g hx t cs.toArray (0, 0) _ hg hu rfl (by rw [hi]; simp) h
end
/-- Two results: a struct that lies in a block, and a slot. -/
theorem results_str2 {P : Program} {fn : Func} {p q : Tmp} {ty : TypeId} (h : fn.results = #[.cell p ty, .tmp q]) (tmps : Array Value) (w : World) (g : Nat) (t : TypeId) (cs : List Value) (v : Value) (fs : _)
    (hp : tmps.getD p undef = .pointer (some ⟨g, 0, none⟩)) (hq : tmps.getD q undef = v) (hg : Blk w g t cs)
    (hu : P.underlying ty = some (.struct fs)) (hi : (P.info? ty).map (·.size) = some cs.length) :
    (results fn tmps).run P w = .ok (.tuple #[.agg cs.toArray, v]) w := by
  have hp' : tmps[p]?.getD undef = .pointer (some ⟨g, 0, none⟩) := by simpa using hp
  have hq' : tmps[q]?.getD undef = v := by simpa using hq
  simp [results, h, hp', hq', asAddr, run_loadVar_row w g t ty cs.toArray (0, 0) _ hg hu rfl (by rw [hi]; simp)]
theorem Own.setRowOther {w : World} {base : Nat} {e : TypeId} {k : IntKind} {v : Value} {xs : List Int} (h : Own w base e k v xs) {g : Nat} (ha : v.ownBlock ≠ some g) (cs : Array Value) : Own (w.setRow g cs) base e k v xs := by
  obtain ⟨h1, h2⟩ := h
  refine ⟨h1, ?_⟩
  rcases h2 with h2 | ⟨g', cap, cur, rfl, hg, hh, r⟩
  · exact .inl h2
  · exact .inr ⟨g', cap, cur, rfl, hg, (setRow_other w g g' cs (fun he => ha (by simp [Value.ownBlock, he]))).trans hh, r⟩
end Go.Cour
