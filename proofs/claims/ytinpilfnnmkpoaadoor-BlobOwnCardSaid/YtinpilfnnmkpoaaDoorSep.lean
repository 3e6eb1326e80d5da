/- Memory in parts: what may change, what is read where; many things side by side. -/
import Derived.Test.YtinpilfnnmkpoaaDoorVals
namespace Go.Cour
open Go.RowKit
/-- Of the blocks that w has, those of F alone may differ in w'. -/
structure Upd (F : Nat → Prop) (w w' : World) : Prop where
  os : w'.os = w.os
  tape : w'.tape = w.tape
  output : w'.output = w.output
  size : w.heap.size ≤ w'.heap.size
  block : ∀ k, k < w.heap.size → ¬ F k → w'.heap[k]? = w.heap[k]?
def NoF : Nat → Prop := fun _ => False
section
variable {F G : Nat → Prop} {w w1 w2 w' : World}
theorem Upd.refl (F : Nat → Prop) (w : World) : Upd F w w := ⟨rfl, rfl, rfl, Nat.le_refl _, fun _ _ _ => rfl⟩
theorem Upd.trans (h : Upd F w w1) (k : Upd G w1 w2) (hG : ∀ j, j < w.heap.size → G j → F j) : Upd F w w2 :=
  ⟨k.os.trans h.os, k.tape.trans h.tape, k.output.trans h.output, Nat.le_trans h.size k.size, fun j hj hf =>
    (k.block j (Nat.lt_of_lt_of_le hj h.size) (fun hg => hf (hG j hj hg))).trans (h.block j hj hf)⟩
theorem Upd.mono (h : Upd F w w1) (hG : ∀ j, j < w.heap.size → F j → G j) : Upd G w w1 :=
  ⟨h.os, h.tape, h.output, h.size, fun j hj hf => h.block j hj (fun hF => hf (hG j hj hF))⟩
theorem Upd.of_below (h : Below w.heap.size w w1) (F : Nat → Prop) : Upd F w w1 := ⟨h.os, h.tape, h.output, h.size, fun j hj _ => h.block j hj⟩
theorem Upd.below {B : Nat} (h : Upd F w w1) (hB : B ≤ w.heap.size) (hF : ∀ j, F j → B ≤ j) : Below B w w1 :=
  ⟨h.os, h.tape, h.output, h.size, fun j hj => h.block j (by omega) (fun hf => by have := hF j hf; omega)⟩
theorem Upd.below_on {B : Nat} {w0 : World} (hb : Below B w0 w) (hB : B ≤ w.heap.size) (h : Upd F w w1) (hF : ∀ j, F j → B ≤ j) : Below B w0 w1 := hb.trans (h.below hB hF)
theorem Upd.of_grown {row : Option Nat} (h : w.grownBy w1 row) : Upd (fun j => row = some j) w w1 :=
  ⟨h.os, h.tape, h.output, h.size, fun j hj hf => h.block j hj (fun he => hf he.symm)⟩
theorem Upd.setCell (w : World) (a : Addr) (v : Value) : Upd (fun j => j = a.block) w (w.setCell a v) :=
  ⟨rfl, rfl, rfl, by simp [World.setCell], fun j _ hf => Below.heap_setCell _ _ _ _ hf⟩
theorem Upd.alloc (w : World) (o : Obj) (F : Nat → Prop) : Upd F w (w.alloc o) := Upd.of_below ((Below.refl _ _).alloc (Nat.le_refl _) _) F
theorem Upd.setRow (w : World) (g : Nat) (cs : Array Value) : Upd (fun j => j = g) w (w.setRow g cs) :=
  ⟨rfl, rfl, rfl, by simp, fun j _ hf => setRow_other w g j cs hf⟩
theorem Upd.drewN (h : Upd F w w1) (n : Nat) : Upd F w (w1.drewN n) := ⟨h.os, h.tape, h.output, h.size, h.block⟩
theorem Upd.drew (h : Upd F w w1) : Upd F w w1.drew := ⟨h.os, h.tape, h.output, h.size, h.block⟩
/-- A block that is not among those that may change. -/
theorem Blk.upd {g : Nat} {t : TypeId} {cs : List Value} (h : Blk w g t cs) (hu : Upd F w w1) (hg : ¬ F g) : Blk w1 g t cs := (hu.block g h.lt hg).trans h
theorem Rd.upd {A : Option Addr} {k : IntKind} {xs : List Int} (h : Rd w A k xs) (hu : Upd F w w1) (hg : ∀ a, A = some a → xs ≠ [] → ¬ F a.block) : Rd w1 A k xs := by
  rcases h with h | ⟨g, o, rfl, h⟩
  · exact .inl h
  · by_cases he : xs = []
    · exact .inl he
    · exact .inr ⟨g, o, rfl, fun i hi => by
        rw [← h i hi]
        have := hu.block g (lt_of_cell (h i hi)) (hg _ rfl he)
        simp only [World.cell?, this]⟩
end
/-- What is said of a value by the blocks F of memory. -/
structure HA (α : Type) where
  at_ : World → (Nat → Prop) → Value → α → Prop
  lt : ∀ {w F v x}, at_ w F v x → ∀ k, F k → k < w.heap.size
  kept : ∀ {w w' F v x}, at_ w F v x → (∀ k, F k → w'.heap[k]? = w.heap[k]?) → at_ w' F v x
  eqv : ∀ {w F G v x}, at_ w F v x → (∀ k, F k ↔ G k) → at_ w G v x
section
variable {α : Type} {H : HA α}
theorem HA.upd {w w' : World} {F G : Nat → Prop} {v : Value} {x : α} (h : H.at_ w F v x) (hu : Upd G w w') (hd : ∀ k, F k → ¬ G k) : H.at_ w' F v x :=
  H.kept h fun k hk => hu.block k (H.lt h k hk) (hd k hk)
theorem HA.below {w w' : World} {F : Nat → Prop} {v : Value} {x : α} (h : H.at_ w F v x) (hb : Below w.heap.size w w') : H.at_ w' F v x :=
  H.kept h fun k hk => hb.block k (H.lt h k hk)
/-- Things side by side. -/
def Star (H : HA α) (w : World) : (Nat → Prop) → List Value → List α → Prop
  | F, [], [] => ∀ k, ¬ F k
  | F, v :: vs, x :: xs => ∃ F1 F2, H.at_ w F1 v x ∧ Star H w F2 vs xs ∧ (∀ k, F1 k → ¬ F2 k) ∧ ∀ k, F k ↔ F1 k ∨ F2 k
  | _, _, _ => False
theorem Star.lt {w : World} : ∀ {F : Nat → Prop} {vs : List Value} {xs : List α}, Star H w F vs xs → ∀ k, F k → k < w.heap.size
  | _, [], [], h, k, hk => absurd hk (h k)
  | _, v :: vs, x :: xs, ⟨F1, F2, h1, h2, _, hF⟩, k, hk => by
    rcases (hF k).1 hk with hk | hk
    · exact H.lt h1 k hk
    · exact Star.lt h2 k hk
  | _, [], _ :: _, h, _, _ => h.elim
  | _, _ :: _, [], h, _, _ => h.elim
theorem Star.length {w : World} : ∀ {F : Nat → Prop} {vs : List Value} {xs : List α}, Star H w F vs xs → vs.length = xs.length
  | _, [], [], _ => rfl
  | _, _ :: _, _ :: _, ⟨_, _, _, h2, _, _⟩ => by simp [Star.length h2]
  | _, [], _ :: _, h => h.elim
  | _, _ :: _, [], h => h.elim
theorem Star.kept {w w' : World} : ∀ {F : Nat → Prop} {vs : List Value} {xs : List α}, Star H w F vs xs → (∀ k, F k → w'.heap[k]? = w.heap[k]?) → Star H w' F vs xs
  | _, [], [], h, _ => h
  | _, v :: vs, x :: xs, ⟨F1, F2, h1, h2, hd, hF⟩, hk => ⟨F1, F2, H.kept h1 fun k h => hk k ((hF k).2 (.inl h)), Star.kept h2 (fun k h => hk k ((hF k).2 (.inr h))), hd, hF⟩
  | _, [], _ :: _, h, _ => h.elim
  | _, _ :: _, [], h, _ => h.elim
theorem Star.eqv {w : World} : ∀ {F G : Nat → Prop} {vs : List Value} {xs : List α}, Star H w F vs xs → (∀ k, F k ↔ G k) → Star H w G vs xs
  | _, _, [], [], h, hk => fun k hg => h k ((hk k).2 hg)
  | _, _, v :: vs, x :: xs, ⟨F1, F2, h1, h2, hd, hF⟩, hk => ⟨F1, F2, h1, h2, hd, fun k => (hk k).symm.trans (hF k)⟩
  | _, _, [], _ :: _, h, _ => h.elim
  | _, _, _ :: _, [], h, _ => h.elim
theorem Star.upd {w w' : World} {F G : Nat → Prop} {vs : List Value} {xs : List α} (h : Star H w F vs xs) (hu : Upd G w w') (hd : ∀ k, F k → ¬ G k) : Star H w' F vs xs :=
  h.kept fun k hk => hu.block k (h.lt k hk) (hd k hk)
theorem Star.below {w w' : World} {F : Nat → Prop} {vs : List Value} {xs : List α} (h : Star H w F vs xs) (hb : Below w.heap.size w w') : Star H w' F vs xs :=
  h.kept fun k hk => hb.block k (h.lt k hk)
theorem Star.nil (H : HA α) (w : World) : Star H w NoF [] [] := fun _ h => h
/-- One of them; whatever it becomes, the others stand as they did. -/
theorem Star.focus {w : World} : ∀ {F : Nat → Prop} {vs : List Value} {xs : List α}, Star H w F vs xs → ∀ i, i < xs.length →
    ∃ (v : Value) (x : α) (F1 F2 : Nat → Prop), vs[i]? = some v ∧ xs[i]? = some x ∧ H.at_ w F1 v x ∧ (∀ k, F1 k → ¬ F2 k) ∧ (∀ k, F k ↔ F1 k ∨ F2 k) ∧ (∀ k, F2 k → k < w.heap.size) ∧
      ∀ w' F1' x', H.at_ w' F1' v x' → (∀ k, F1' k → ¬ F2 k) → (∀ k, F2 k → w'.heap[k]? = w.heap[k]?) → Star H w' (fun k => F1' k ∨ F2 k) vs (xs.set i x')
  | F, v :: vs, x :: xs, ⟨F1, F2, h1, h2, hd, hF⟩, 0, _ => ⟨v, x, F1, F2, rfl, rfl, h1, hd, hF, h2.lt, fun w' F1' x' h' hd' hk => ⟨F1', F2, h', h2.kept hk, hd', fun _ => Iff.rfl⟩⟩
  | F, v :: vs, x :: xs, ⟨F1, F2, h1, h2, hd, hF⟩, i + 1, hi => by
    obtain ⟨v', x', G1, G2, hv, hx, hat, hd2, hF2, hlt, hback⟩ := Star.focus h2 i (by simpa using hi)
    refine ⟨v', x', G1, fun k => F1 k ∨ G2 k, by simpa using hv, by simpa using hx, hat, fun k hk hn => ?_, fun k => ?_, fun k hk => ?_, fun w' F1' y h' hd' hk => ?_⟩
    · rcases hn with hn | hn
      · exact hd k hn ((hF2 k).2 (.inl hk))
      · exact hd2 k hk hn
    · rw [hF k, hF2 k]
      constructor
      · rintro (h | h | h)
        · exact .inr (.inl h)
        · exact .inl h
        · exact .inr (.inr h)
      · rintro (h | h | h)
        · exact .inr (.inl h)
        · exact .inl h
        · exact .inr (.inr h)
    · rcases hk with hk | hk
      · exact H.lt h1 k hk
      · exact hlt k hk
    · refine ⟨F1, fun k => F1' k ∨ G2 k, H.kept h1 fun k h => hk k (.inl h), hback w' F1' y h' (fun k h1' h2' => hd' k h1' (.inr h2')) (fun k h => hk k (.inr h)), fun k h1' h2' => ?_, fun k => ?_⟩
      · rcases h2' with h2' | h2'
        · exact hd' k h2' (.inl h1')
        · exact hd k h1' ((hF2 k).2 (.inr h2'))
      · constructor
        · rintro (h | h | h)
          · exact .inr (.inl h)
          · exact .inl h
          · exact .inr (.inr h)
        · rintro (h | h | h)
          · exact .inr (.inl h)
          · exact .inl h
          · exact .inr (.inr h)
  | _, [], [], _, _, hi => absurd hi (Nat.not_lt_zero _)
  | _, [], _ :: _, h, _, _ => h.elim
  | _, _ :: _, [], h, _, _ => h.elim
/-- One more behind them. -/
theorem Star.snoc {w : World} {v : Value} {x : α} {F1 : Nat → Prop} : ∀ {F : Nat → Prop} {vs : List Value} {xs : List α}, Star H w F vs xs → H.at_ w F1 v x → (∀ k, F k → ¬ F1 k) → Star H w (fun k => F k ∨ F1 k) (vs ++ [v]) (xs ++ [x])
  | F, [], [], h, h1, _ => ⟨F1, NoF, h1, fun _ h => h, fun _ _ h => h, fun k => ⟨fun hk => .inl (hk.resolve_left (h k)), fun hk => .inr (hk.resolve_right (fun h => h))⟩⟩
  | F, v' :: vs, x' :: xs, ⟨G1, G2, h1, h2, hd, hF⟩, h1', hdis => by
    refine ⟨G1, fun k => G2 k ∨ F1 k, h1, Star.snoc h2 h1' (fun k hk => hdis k ((hF k).2 (.inr hk))), fun k hk hn => ?_, fun k => ?_⟩
    · rcases hn with hn | hn
      · exact hd k hk hn
      · exact hdis k ((hF k).2 (.inl hk)) hn
    · show F k ∨ F1 k ↔ G1 k ∨ (G2 k ∨ F1 k)
      rw [hF k]; exact or_assoc
  | _, [], _ :: _, h, _, _ => h.elim
  | _, _ :: _, [], h, _, _ => h.elim
/-- Some of them, in their order. -/
theorem Star.part {w : World} (p : α → Bool) : ∀ {F : Nat → Prop} {vs : List Value} {xs : List α}, Star H w F vs xs → ∃ F', Star H w F' (((vs.zip xs).filter fun y => p y.2).map (·.1)) (xs.filter p) ∧ ∀ k, F' k → F k
  | F, [], [], h => ⟨F, h, fun _ h => h⟩
  | F, v :: vs, x :: xs, ⟨F1, F2, h1, h2, hd, hF⟩ => by
    obtain ⟨G, hG, hsub⟩ := Star.part p h2
    cases hp : p x with
    | false => exact ⟨G, by simpa [List.filter, hp] using hG, fun k hk => (hF k).2 (.inr (hsub k hk))⟩
    | true => exact ⟨fun k => F1 k ∨ G k, by
        simp only [List.zip_cons_cons, List.filter, hp, List.map_cons]
        exact ⟨F1, G, h1, hG, fun k h1' h2' => hd k h1' (hsub k h2'), fun _ => Iff.rfl⟩, fun k hk => (hF k).2 (hk.imp id (hsub k))⟩
  | _, [], _ :: _, h => h.elim
  | _, _ :: _, [], h => h.elim
end
theorem Own.kept' {w w' : World} {B : Nat} {e : TypeId} {k : IntKind} {v : Value} {xs : List Int} (h : Own w B e k v xs) (hk : ∀ j, v.ownBlock = some j → w'.heap[j]? = w.heap[j]?) : Own w' B e k v xs := by
  obtain ⟨h1, h2⟩ := h
  refine ⟨h1, ?_⟩
  rcases h2 with h2 | ⟨g, cap, cur, rfl, hb, hh, r⟩
  · exact .inl h2
  · exact .inr ⟨g, cap, cur, rfl, hb, (hk g rfl).trans hh, r⟩
theorem Own.lt_size {w : World} {base : Nat} {e : TypeId} {k : IntKind} {v : Value} {xs : List Int} (h : Own w base e k v xs) (j : Nat) (hj : v.ownBlock = some j) : j < w.heap.size := by
  rcases h.2 with ⟨rfl, _⟩ | ⟨g, cap, cur, rfl, hg, hh, r⟩
  · simp [Value.ownBlock] at hj
  · have : g = j := by simpa [Value.ownBlock] using hj
    subst this
    exact (Array.getElem?_eq_some_iff.1 hh).1
theorem OwnV.kept' {w w' : World} {B : Nat} {e : TypeId} {v : Value} {cs : List Value} (h : OwnV w B e v cs) (hk : ∀ j, v.ownBlock = some j → w'.heap[j]? = w.heap[j]?) : OwnV w' B e v cs := by
  obtain ⟨h1, h2⟩ := h
  refine ⟨h1, ?_⟩
  rcases h2 with h2 | ⟨g, cap, cur, rfl, hb, hh, r⟩
  · exact .inl h2
  · exact .inr ⟨g, cap, cur, rfl, hb, (hk g rfl).trans hh, r⟩
theorem OwnV.lt_size {w : World} {base : Nat} {e : TypeId} {v : Value} {cs : List Value} (h : OwnV w base e v cs) (j : Nat) (hj : v.ownBlock = some j) : j < w.heap.size := by
  rcases h.2 with ⟨rfl, _⟩ | ⟨g, cap, cur, rfl, hg, hh, r⟩
  · simp [Value.ownBlock] at hj
  · have : g = j := by simpa [Value.ownBlock] using hj
    subst this
    exact (Array.getElem?_eq_some_iff.1 hh).1
end Go.Cour
