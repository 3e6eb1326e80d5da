/- What an opening answers, as it is compared. -/
import Derived.Test.YtpmmmbilfblcpaaDoorOwnAt
import Derived.Test.YtpmmmbilfblcpaaDoorRefO
namespace Go.Proofs.YtpmmmbilfblcpaaDoor
open Go.RowKit Go.Cour
/-- A tuple of two values of which something is known. -/
def Tup2 (v : Value) (p : Value → Value → Prop) : Prop := ∃ a b, v = .tuple #[a, b] ∧ p a b
def tupAt (i : Nat) : Value → Value
  | .tuple a => a.getD i undef
  | _ => undef
theorem Tup2.mono {v : Value} {p q : Value → Value → Prop} (h : Tup2 v p) (k : ∀ a b, p a b → q a b) : Tup2 v q := by
  obtain ⟨a, b, h1, h2⟩ := h
  exact ⟨a, b, h1, k a b h2⟩
theorem Opened.below {w w' : World} {B : Nat} {P : Nat → Addr} {r : List Int ⊕ Nat} {v er : Value} (h : Opened w B P r v er) (hb : Below w.heap.size w w') : Opened w' B P r v er := by
  cases r with
  | inl xs => exact ⟨h.1, h.2.below hb⟩
  | inr k => exact h
theorem Opened1.below {w w' : World} {B : Nat} {r : List Int ⊕ Nat} {v : Value} {k : Int} (h : Opened1 w B r v k) (hb : Below w.heap.size w w') : Opened1 w' B r v k := by
  cases r with
  | inl xs => exact ⟨h.1, h.2.below hb⟩
  | inr k => exact h
theorem Opened.drew {w : World} {B : Nat} {P : Nat → Addr} {r : List Int ⊕ Nat} {v er : Value} (h : Opened w B P r v er) : Opened w.drew B P r v er := h.below (below_drewN (Below.refl _ _) 1)
theorem Opened1.drew {w : World} {B : Nat} {r : List Int ⊕ Nat} {v : Value} {k : Int} (h : Opened1 w B r v k) : Opened1 w.drew B r v k := h.below (below_drewN (Below.refl _ _) 1)
theorem Opened.lower {w : World} {B B' : Nat} {P : Nat → Addr} {r : List Int ⊕ Nat} {v er : Value} (h : Opened w B P r v er) (hb : B' ≤ B) : Opened w B' P r v er := by
  cases r with
  | inl xs => exact ⟨h.1, h.2.lower hb⟩
  | inr k => exact h
theorem Opened1.lower {w : World} {B B' : Nat} {r : List Int ⊕ Nat} {v : Value} {k : Int} (h : Opened1 w B r v k) (hb : B' ≤ B) : Opened1 w B' r v k := by
  cases r with
  | inl xs => exact ⟨h.1, h.2.lower hb⟩
  | inr k => exact h
theorem openOf_inr {key nonce ad b : List Int} {k : Nat} (h : openOf key nonce ad b = .inr k) : k = 2 ∨ k = 8 := by
  unfold openOf at h
  split at h
  · injection h with h; exact .inl h.symm
  · split at h
    · cases h
    · injection h with h; exact .inr h.symm
theorem openOf_inl {key nonce ad b xs : List Int} (h : openOf key nonce ad b = .inl xs) : xs.length ≤ b.length := by
  unfold openOf at h
  split at h
  · cases h
  · split at h
    · injection h with h
      rw [← h, xorStream_length, List.length_take]
      omega
    · cases h
/-- The bytes that an opening answers. -/
def opL : List Int ⊕ Nat → List Int
  | .inl xs => xs
  | .inr _ => []
theorem openOf_opL (key nonce ad b : List Int) : (opL (openOf key nonce ad b)).length ≤ b.length := by
  cases h : openOf key nonce ad b with
  | inl xs => exact openOf_inl h
  | inr k => simp [opL]
theorem openOf_lt (key nonce ad b : List Int) : ∀ j, openOf key nonce ad b = .inr j → j < 19 := fun j h => by
  rcases openOf_inr h with h | h <;> omega
theorem Opened.rd {w : World} {B : Nat} {P : Nat → Addr} {r : List Int ⊕ Nat} {v er : Value} (h : Opened w B P r v er) : ∃ A c, v = .slice A (opL r).length c ∧ Rd w A .u8 (opL r) := by
  cases r with
  | inl xs => obtain ⟨A, c, hv, _, _, hr⟩ := h.2.parts; exact ⟨A, c, hv, hr⟩
  | inr k => exact ⟨none, 0, h.2, .inl rfl⟩
theorem Opened1.rd {w : World} {B : Nat} {r : List Int ⊕ Nat} {v : Value} {k : Int} (h : Opened1 w B r v k) : ∃ A c, v = .slice A (opL r).length c ∧ Rd w A .u8 (opL r) := by
  cases r with
  | inl xs => obtain ⟨A, c, hv, _, _, hr⟩ := h.2.parts; exact ⟨A, c, hv, hr⟩
  | inr k => exact ⟨none, 0, h.2, .inl rfl⟩
/-- The two errors are alike. -/
theorem is_op_calls {w w1 w2 : World} {B B' : Nat} {P : Nat → Addr} {r : List Int ⊕ Nat} {v v' er : Value} {k : Int} (hE : Errs w P) (hr : ∀ j, r = .inr j → j < 19) (h : Opened w1 B P r v er) (h' : Opened1 w2 B' r v' k) :
    Calls Tryd.prog 19 #[er, .int .i64 k] w fun e w' => e = .returned (.bool true) ∧ Below w.heap.size w w' := by
  cases r with
  | inl xs => rw [h.1, h'.1]; exact is_nil_calls 0 w
  | inr j =>
    rw [h.1, h'.1]
    have := is_err_calls (101 + (j : Int)) hE j (hr j rfl)
    simpa using this
theorem u8_wf {x : Int} (h : (Lit.int .u8 x).wf = true) : 0 ≤ x ∧ x < 256 := by
  have h1 : IntKind.u8.min = 0 := by decide
  have h2 : IntKind.u8.max = 255 := by decide
  simp [Lit.wf, h1, h2] at h
  omega
end Go.Proofs.YtpmmmbilfblcpaaDoor
