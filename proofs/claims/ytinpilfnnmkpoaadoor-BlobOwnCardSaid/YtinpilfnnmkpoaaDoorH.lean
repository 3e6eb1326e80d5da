/- Memory as a list of things side by side; what a call may change. -/
import Derived.Test.YtinpilfnnmkpoaaDoorApp
namespace Go.Cour
open Go.RowKit
/-- Something that is said of some blocks of memory. -/
structure Ent where
  F : Nat → Prop
  p : World → Prop
  lt : ∀ {w}, p w → ∀ k, F k → k < w.heap.size
  kept : ∀ {w w'}, p w → (∀ k, F k → w'.heap[k]? = w.heap[k]?) → p w'
def Ent.blk (g : Nat) (t : TypeId) (cs : List Value) : Ent where
  F := fun k => k = g
  p := fun w => Blk w g t cs
  lt := fun h k hk => hk ▸ h.lt
  kept := fun h hk => (hk g rfl).trans h
def Ent.own (e : TypeId) (k : IntKind) (v : Value) (xs : List Int) : Ent where
  F := fun j => v.ownBlock = some j
  p := fun w => Own w 0 e k v xs
  lt := fun h j hj => h.lt_size j hj
  kept := fun h hk => h.kept' hk
def Ent.ownV (e : TypeId) (v : Value) (cs : List Value) : Ent where
  F := fun j => v.ownBlock = some j
  p := fun w => OwnV w 0 e v cs
  lt := fun h j hj => h.lt_size j hj
  kept := fun h hk => h.kept' hk
def Ent.ha {α : Type} (H : HA α) (F : Nat → Prop) (v : Value) (x : α) : Ent where
  F := F
  p := fun w => H.at_ w F v x
  lt := fun h k hk => H.lt h k hk
  kept := fun h hk => H.kept h hk
/-- Things side by side. -/
def Mem (w : World) : List Ent → Prop
  | [] => True
  | e :: L => e.p w ∧ (∀ f ∈ L, ∀ k, e.F k → ¬ f.F k) ∧ Mem w L
section
variable {w w' : World} {L : List Ent} {e e' : Ent}
theorem Mem.get : ∀ {L : List Ent} {i : Nat} {e : Ent}, Mem w L → L[i]? = some e → e.p w
  | _ :: _, 0, _, h, hi => by simp at hi; exact hi ▸ h.1
  | _ :: L, i + 1, _, h, hi => Mem.get h.2.2 (by simpa using hi)
  | [], _, _, _, hi => by simp at hi
theorem Mem.keptAll : ∀ {L : List Ent}, Mem w L → (∀ e ∈ L, ∀ k, e.F k → w'.heap[k]? = w.heap[k]?) → Mem w' L
  | [], _, _ => trivial
  | e :: _, h, hk => ⟨e.kept h.1 (hk e (by simp)), h.2.1, Mem.keptAll h.2.2 fun f hf => hk f (by simp [hf])⟩
theorem Mem.lt (h : Mem w L) (he : e ∈ L) (k : Nat) (hk : e.F k) : k < w.heap.size := by
  obtain ⟨i, hi⟩ := List.getElem?_of_mem he
  exact e.lt (h.get hi) k hk
theorem Mem.apart : ∀ {L : List Ent} {i j : Nat} {e f : Ent}, Mem w L → L[i]? = some e → L[j]? = some f → i ≠ j → ∀ k, e.F k → ¬ f.F k
  | _ :: _, 0, 0, _, _, _, _, _, hn => absurd rfl hn
  | _ :: L, 0, j + 1, e, f, h, hi, hj, _ => by
    simp at hi hj; subst hi
    exact h.2.1 f (List.mem_of_getElem? hj)
  | _ :: L, i + 1, 0, e, f, h, hi, hj, _ => by
    simp at hi hj; subst hj
    exact fun k hk hf => h.2.1 e (List.mem_of_getElem? hi) k hf hk
  | _ :: L, i + 1, j + 1, e, f, h, hi, hj, hn => Mem.apart h.2.2 (by simpa using hi) (by simpa using hj) (by omega)
  | [], _, _, _, _, _, hi, _, _ => by simp at hi
theorem Mem.erase : ∀ {L : List Ent} (i : Nat), Mem w L → Mem w (L.eraseIdx i)
  | [], _, h => by simpa using h
  | _ :: _, 0, h => h.2.2
  | e :: L, i + 1, h => ⟨h.1, fun f hf => h.2.1 f (List.mem_of_mem_eraseIdx hf), Mem.erase i h.2.2⟩
/-- What a call may have changed (F, and what is new), and what there is, side by side. -/
structure HS (F : Nat → Prop) (w0 w : World) (L : List Ent) : Prop where
  upd : Upd F w0 w
  mem : Mem w L
  own : ∀ e ∈ L, ∀ k, e.F k → F k ∨ w0.heap.size ≤ k
variable {F : Nat → Prop} {w0 : World}
theorem HS.start (F : Nat → Prop) (w : World) : HS F w w [] := ⟨Upd.refl _ _, trivial, fun _ h => by simp at h⟩
theorem HS.get (h : HS F w0 w L) {i : Nat} (hi : L[i]? = some e) : e.p w := h.mem.get hi
theorem HS.blk (h : HS F w0 w L) (i : Nat) {g : Nat} {t : TypeId} {cs : List Value} (hi : L[i]? = some (.blk g t cs)) : Blk w g t cs := h.mem.get hi
theorem HS.ownI (h : HS F w0 w L) (i : Nat) {t : TypeId} {k : IntKind} {v : Value} {xs : List Int} (hi : L[i]? = some (.own t k v xs)) : Own w 0 t k v xs := h.mem.get hi
theorem HS.ownV (h : HS F w0 w L) (i : Nat) {t : TypeId} {v : Value} {cs : List Value} (hi : L[i]? = some (.ownV t v cs)) : OwnV w 0 t v cs := h.mem.get hi
theorem HS.ha (h : HS F w0 w L) (i : Nat) {α : Type} {H : HA α} {G : Nat → Prop} {v : Value} {x : α} (hi : L[i]? = some (.ha H G v x)) : H.at_ w G v x := h.mem.get hi
theorem HS.size (h : HS F w0 w L) : w0.heap.size ≤ w.heap.size := h.upd.size
theorem HS.below (h : HS F w0 w L) (hb : Below w.heap.size w w') : HS F w0 w' L :=
  ⟨h.upd.trans (Upd.of_below hb F) fun _ _ hk => hk, h.mem.keptAll fun e he k hk => hb.block k (h.mem.lt he k hk), h.own⟩
theorem HS.drew (h : HS F w0 w L) : HS F w0 w.drew L := h.below (below_drewN (Below.refl _ _) 1)
theorem HS.drewN (h : HS F w0 w L) (n : Nat) : HS F w0 (w.drewN n) L := h.below (below_drewN (Below.refl _ _) n)
/-- A new thing. -/
theorem HS.push (h : HS F w0 w L) (hb : Below w.heap.size w w') (e : Ent) (he : e.p w') (hn : ∀ k, e.F k → w.heap.size ≤ k) : HS F w0 w' (e :: L) :=
  ⟨(h.below hb).upd, ⟨he, fun f hf k hk hfk => by have := hn k hk; have := h.mem.lt hf k hfk; omega, (h.below hb).mem⟩, fun f hf k hk => by
    rcases List.mem_cons.1 hf with rfl | hf
    · exact .inr (Nat.le_trans h.size (hn k hk))
    · exact h.own f hf k hk⟩
theorem HS.pushBlk (h : HS F w0 w L) (hb : Below w.heap.size w w') {g : Nat} {t : TypeId} {cs : List Value} (he : Blk w' g t cs) (hg : w.heap.size = g) : HS F w0 w' (.blk g t cs :: L) :=
  h.push hb _ he fun k hk => by have : k = g := hk; omega
theorem HS.alloc (h : HS F w0 w L) (t : TypeId) (cs : List Value) {g : Nat} (hg : w.heap.size = g) : HS F w0 (w.alloc (.cells cs.toArray t)) (.blk g t cs :: L) :=
  h.pushBlk ((Below.refl _ _).alloc (Nat.le_refl _) _) (hg ▸ Blk.new _ _ _) hg
/-- A thing that was there at the begin, and may be changed. -/
theorem HS.take (h : HS F w0 w L) (e : Ent) (he : e.p w) (hF : ∀ k, e.F k → F k ∨ w0.heap.size ≤ k) (hd : ∀ f ∈ L, ∀ k, e.F k → ¬ f.F k) : HS F w0 w (e :: L) :=
  ⟨h.upd, ⟨he, hd, h.mem⟩, fun f hf => by
    rcases List.mem_cons.1 hf with rfl | hf
    · exact hF
    · exact h.own f hf⟩
theorem Mem.set1 : ∀ {L : List Ent} {i : Nat} {e e' : Ent} {w w' : World}, Mem w L → L[i]? = some e → (∀ k, k < w.heap.size → ¬ e.F k → w'.heap[k]? = w.heap[k]?) → e'.p w' → (∀ k, e'.F k → e.F k ∨ w.heap.size ≤ k) → Mem w' (L.set i e')
  | e :: L, 0, _, e', w, w', h, hi, hk, he', hF => by
    simp at hi; subst hi
    refine ⟨he', fun f hf k hk' hfk => ?_, Mem.keptAll h.2.2 fun f hf k hfk => hk k (h.2.2.lt hf k hfk) fun hek => h.2.1 f hf k hek hfk⟩
    rcases hF k hk' with h1 | h1
    · exact h.2.1 f hf k h1 hfk
    · have := h.2.2.lt hf k hfk; omega
  | e0 :: L, i + 1, e, e', w, w', h, hi, hk, he', hF => by
    have hi' : L[i]? = some e := by simpa using hi
    have hmem := List.mem_of_getElem? hi'
    refine ⟨e0.kept h.1 fun k hk0 => hk k (e0.lt h.1 k hk0) (h.2.1 e hmem k hk0), fun f hf k hk0 hfk => ?_, Mem.set1 h.2.2 hi' hk he' hF⟩
    rcases List.mem_or_eq_of_mem_set hf with hf | rfl
    · exact h.2.1 f hf k hk0 hfk
    · rcases hF k hfk with h1 | h1
      · exact h.2.1 e hmem k hk0 h1
      · have := e0.lt h.1 k hk0; omega
  | [], _, _, _, _, _, _, hi, _, _, _ => by simp at hi
/-- One thing has become another one; all others stand. -/
theorem HS.upd1 (h : HS F w0 w L) (i : Nat) (hi : L[i]? = some e) (hu : Upd e.F w w') (e' : Ent) (he' : e'.p w') (hF : ∀ k, e'.F k → e.F k ∨ w.heap.size ≤ k) : HS F w0 w' (L.set i e') := by
  have hmem := List.mem_of_getElem? hi
  refine ⟨⟨hu.os.trans h.upd.os, hu.tape.trans h.upd.tape, hu.output.trans h.upd.output, Nat.le_trans h.size hu.size, fun k hk hf => ?_⟩, h.mem.set1 hi hu.block he' hF, fun f hf k hfk => ?_⟩
  · refine (hu.block k (Nat.lt_of_lt_of_le hk h.size) fun hek => ?_).trans (h.upd.block k hk hf)
    rcases h.own e hmem k hek with h1 | h1
    · exact hf h1
    · omega
  · rcases List.mem_or_eq_of_mem_set hf with hf | rfl
    · exact h.own f hf k hfk
    · rcases hF k hfk with h1 | h1
      · exact h.own e hmem k h1
      · exact .inr (Nat.le_trans h.size h1)
theorem HS.erase (h : HS F w0 w L) (i : Nat) : HS F w0 w (L.eraseIdx i) := ⟨h.upd, h.mem.erase i, fun e he => h.own e (List.mem_of_mem_eraseIdx he)⟩
theorem HS.setCell (h : HS F w0 w L) (i : Nat) {g : Nat} {t : TypeId} {cs : List Value} (hi : L[i]? = some (.blk g t cs)) (j : Nat) (v : Value) : HS F w0 (w.setCell ⟨g, j, none⟩ v) (L.set i (.blk g t (cs.set j v))) :=
  h.upd1 i hi ((Upd.setCell w ⟨g, j, none⟩ v).mono fun _ _ hk => hk) _ ((h.blk i hi).set j v) fun k hk => .inl hk
theorem HS.setI (h : HS F w0 w L) (i : Nat) {g : Nat} {t : TypeId} {k : IntKind} {xs : List Int} (hi : L[i]? = some (.blk g t (ints k xs))) (j : Nat) (x : Int) : HS F w0 (w.setCell ⟨g, j, none⟩ (.int k x)) (L.set i (.blk g t (ints k (xs.set j x)))) := by
  have := h.setCell i hi j (.int k x)
  rwa [ints_set] at this
theorem HS.setRow (h : HS F w0 w L) (i : Nat) {g : Nat} {t : TypeId} {cs : List Value} (hi : L[i]? = some (.blk g t cs)) (cs' : List Value) : HS F w0 (w.setRow g cs'.toArray) (L.set i (.blk g t cs')) :=
  h.upd1 i hi ((Upd.setRow w g cs'.toArray).mono fun _ _ hk => hk) _ ((h.blk i hi).setRow cs') fun k hk => .inl hk
/-- What was there, and may not be changed, reads as it did. -/
theorem HS.old (h : HS F w0 w L) {k : Nat} (hk : k < w0.heap.size) (hF : ¬ F k) : w.heap[k]? = w0.heap[k]? := h.upd.block k hk hF
theorem HS.oldCell (h : HS F w0 w L) {g i : Nat} {v : Value} (hc : w0.cell? ⟨g, i, none⟩ = some v) (hF : ¬ F g) : w.cell? ⟨g, i, none⟩ = some v := by
  rw [← hc]; have := h.old (lt_of_cell hc) hF; simp only [World.cell?, this]
theorem HS.oldRd (h : HS F w0 w L) {A : Option Addr} {k : IntKind} {xs : List Int} (hr : Rd w0 A k xs) (hF : ∀ a, A = some a → xs ≠ [] → ¬ F a.block) : Rd w A k xs := hr.upd h.upd hF
theorem HS.oldBlk (h : HS F w0 w L) {g : Nat} {t : TypeId} {cs : List Value} (hb : Blk w0 g t cs) (hF : ¬ F g) : Blk w g t cs := (h.old hb.lt hF).trans hb
/-- Nothing but what is new was changed. -/
theorem HS.bel (h : HS NoF w0 w L) : Below w0.heap.size w0 w := h.upd.below (Nat.le_refl _) fun _ hk => hk.elim
theorem HS.frozen (h : HS F w0 w L) (i : Nat) {g : Nat} {t : TypeId} {cs : List Value} (hi : L[i]? = some (.blk g t cs)) (j : Nat) : w.frozen? ⟨g, j, none⟩ = false := (h.blk i hi).frozen j
theorem HS.cellI (h : HS F w0 w L) (i : Nat) {g : Nat} {t : TypeId} {k : IntKind} {xs : List Int} (hi : L[i]? = some (.blk g t (ints k xs))) (j : Nat) (hj : j < xs.length) : w.cell? ⟨g, j, none⟩ = some (.int k (rd xs j)) := (h.blk i hi).cellI j hj
theorem HS.cell (h : HS F w0 w L) (i : Nat) {g : Nat} {t : TypeId} {cs : List Value} (hi : L[i]? = some (.blk g t cs)) (j : Nat) : w.cell? ⟨g, j, none⟩ = cs[j]? := (h.blk i hi).cell j
end
end Go.Cour
