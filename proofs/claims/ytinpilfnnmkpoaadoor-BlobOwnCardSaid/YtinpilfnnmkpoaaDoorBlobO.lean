/- A store and blocks beside it. -/
import Derived.Test.YtinpilfnnmkpoaaDoorBlobN
import Derived.OwnWalk
import Derived.Laws.OwnMore
namespace Go.Cour
open Go.RowKit
section
variable {P : Program} {w : World} {ops : Array Oper} {rest : List Oper} {o : Oper} {a : Act} {Q : Exit → Act → World → Prop}
/-- make([]T, n), T whole numbers. -/
theorem make_zeros (hg : o.guard = none) (l c : Operand) (t : TypeId) (hop : o.op = Op.makeSlice t l c) (e : TypeId) (k : IntKind) (bytes : Nat) (h1 : P.underlying t = some (.slice e))
    (hi : (P.info? e).map (fun i => (i.zero, i.size, i.bytes)) = some (some (.int k 0), 1, bytes)) (kl kc : IntKind) (L C : Int) (n : Nat) (hl : a.eval l = .int kl L) (hc : a.eval c = .int kc C) (hL : L = (n : Int)) (hC : C = (n : Int)) (b2 : bytes * n ≤ 281474976710656) (b3 : n ≤ maxLen)
    (hK : ∀ g w', w.heap.size = g → Own w' g e k (.slice (some ⟨g, 0, none⟩) n n) (List.replicate n 0) → Below w.heap.size w w' → wpList P ops Q rest (a.put o.dst (.slice (some ⟨g, 0, none⟩) n n)) w') : wpList P ops Q (o :: rest) a w := by
  obtain ⟨i, hi0, hz0, hz1, hz2⟩ := info_parts hi
  refine wpList_make_full w hg l c t hop w.heap.size e i (.int k 0) 1 h1 hi0 hz0 hz1 kl kc L C n hl hc hL hC (by rw [hz2]; exact b2) b3 (Nat.le_refl _) fun w' ho hg' => ?_
  refine hK w.heap.size w' rfl ?_ ⟨hg'.os, hg'.tape, hg'.output, hg'.size, fun j hj => hg'.block j hj (by simp)⟩
  have hm : (madeCells (Value.int k 0).cells (n * 1)).toList = ints k (List.replicate n 0) := by
    rw [Nat.mul_one]
    show (madeCells #[Value.int k 0] n).toList = _
    rw [toList_madeCells_one]
    simp [ints]
  unfold Own
  rw [List.length_replicate, ← hm]
  exact ho
end
end Go.Cour
namespace Go.Proofs.YtinpilfnnmkpoaaDoor
open Go.RowKit Go.Cour
/-- A store, and blocks G that are none of it. -/
def OneS (w w' : World) (B gs : Nat) (G : Nat → Prop) (st : StoreD) : Prop := ∃ F, Sto w' B F gs st ∧ (∀ k, G k → ¬ F k ∧ k < w'.heap.size) ∧ Below B w w'
section
variable {w w1 : World} {P : Nat → Addr} {B gs : Nat} {G : Nat → Prop} {st : StoreD}
theorem OneS.bel (h : OneS w w1 B gs G st) : Below B w w1 := by obtain ⟨F, _, _, h⟩ := h; exact h
theorem OneS.below {w2 : World} (h : OneS w w1 B gs G st) (hb : Below w1.heap.size w1 w2) : OneS w w2 B gs G st := by
  obtain ⟨F, h1, h2, h3⟩ := h
  exact ⟨F, h1.below hb, fun k hk => ⟨(h2 k hk).1, Nat.lt_of_lt_of_le (h2 k hk).2 hb.size⟩, h3.trans (hb.mono h1.2.2)⟩
theorem OneS.new {w2 : World} (h : OneS w w1 B gs G st) (hb : Below w1.heap.size w1 w2) {g : Nat} (hg : w1.heap.size ≤ g) (hg2 : g < w2.heap.size) : OneS w w2 B gs (fun k => G k ∨ k = g) st := by
  obtain ⟨F, h1, h2, h3⟩ := h
  refine ⟨F, h1.below hb, fun k hk => ?_, h3.trans (hb.mono h1.2.2)⟩
  rcases hk with hk | rfl
  · exact ⟨(h2 k hk).1, Nat.lt_of_lt_of_le (h2 k hk).2 hb.size⟩
  · exact ⟨fun hf => by have := h1.lt k hf; omega, hg2⟩
theorem OneS.step {w2 : World} {st2 : StoreD} {F : Nat → Prop} (h2 : ∀ k, G k → ¬ F k ∧ k < w1.heap.size) (h3 : Below B w w1) (hx : ∃ F', Sto w2 B F' gs st2 ∧ Sub F' F w1 ∧ Upd F w1 w2 ∧ Below B w1 w2) : OneS w w2 B gs G st2 ∧ ∀ k, G k → w2.heap[k]? = w1.heap[k]? := by
  obtain ⟨F', k1, k2, k3, k4⟩ := hx
  refine ⟨⟨F', k1, fun k hk => ⟨fun hf => ?_, Nat.lt_of_lt_of_le (h2 k hk).2 k3.size⟩, h3.trans k4⟩, fun k hk => k3.block k (h2 k hk).2 (h2 k hk).1⟩
  rcases k2 k hf with h4 | h4
  · exact (h2 k hk).1 h4
  · have := (h2 k hk).2; omega
theorem openO (id : List Int) (n : Int) (st2 : StoreD) (o : Option Nat) (hE : ErrsAt w P B) (h : OneS w w1 B gs G st) (hG : Good st) (hid' : id.length = 32) (h1 : openE st id n = o) (h2 : openS st id n = st2) :
    Calls Tryd.prog 11 #[.pointer (some ⟨gs, 0, none⟩), .agg (ints .u8 id).toArray, .int .i64 n] w1 fun e w' => e = .returned (erV P o) ∧ OneS w w' B gs G st2 ∧ ∀ k, G k → w'.heap[k]? = w1.heap[k]? := by
  subst h1 h2
  obtain ⟨F, h1, h2, h3⟩ := h
  exact (openX id n (hE.below h3) h1 hG hid').mono fun e w' ⟨he, hx⟩ => ⟨he, OneS.step h2 h3 hx⟩
theorem putO (id : List Int) (off : Int) (bs : List Int) (Ab : Option Addr) (q cb : Nat) (r : Int × Option Nat) (l2 : List Item) (hE : ErrsAt w P B) (h : OneS w w1 B gs G st) (hG : Good st) (hid' : id.length = 32)
    (ho : -9223372036854775808 ≤ off ∧ off < 9223372036854775808) (hq : bs.length = q) (hq2 : q ≤ 1000000) (hqc : q ≤ cb) (hAb : Ab = none → cb = 0) (hrd : Rd w1 Ab .u8 bs) (hsep : ∀ a, Ab = some a → bs ≠ [] → G a.block) (h1 : putOf id off bs st.l = r) (h2 : putL id off bs st.l = l2) :
    Calls Tryd.prog 19 #[.pointer (some ⟨gs, 0, none⟩), .agg (ints .u8 id).toArray, .int .i64 off, .slice Ab q cb] w1 fun e w' => e = .returned (.tuple #[.int .i64 r.1, erV P r.2]) ∧ OneS w w' B gs G { st with l := l2 } ∧ ∀ k, G k → w'.heap[k]? = w1.heap[k]? := by
  subst h1 h2
  obtain ⟨F, h1, h2, h3⟩ := h
  exact (putX id off bs Ab q cb (hE.below h3) h1 hG hid' ho hq hq2 hqc hAb hrd (fun a ha hn => (h2 _ (hsep a ha hn)).1)).mono fun e w' ⟨he, hx⟩ => ⟨he, OneS.step h2 h3 hx⟩
theorem statO (id : List Int) (r : Int × Bool × Option Nat) (l2 : List Item) (hE : ErrsAt w P B) (h : OneS w w1 B gs G st) (hid' : id.length = 32) (hlen : st.l.length ≤ 1000000) (h1 : statOf id st.l = r) (h2 : touch id st.l = l2) :
    Calls Tryd.prog 16 #[.pointer (some ⟨gs, 0, none⟩), .agg (ints .u8 id).toArray] w1 fun e w' => e = .returned (.tuple #[.int .i64 r.1, .bool r.2.1, erV P r.2.2]) ∧ OneS w w' B gs G { st with l := l2 } ∧ ∀ k, G k → w'.heap[k]? = w1.heap[k]? := by
  subst h1 h2
  obtain ⟨F, h1, h2, h3⟩ := h
  exact (statX id (hE.below h3) h1 hid' hlen).mono fun e w' ⟨he, hx⟩ => ⟨he, OneS.step h2 h3 hx⟩
theorem commitO (id : List Int) (hE : ErrsAt w P B) (h : OneS w w1 B gs G st) (hid' : id.length = 32) (hlen : st.l.length ≤ 1000000) (hk : ¬ posOf id st.l < st.l.length) :
    Calls Tryd.prog 21 #[.pointer (some ⟨gs, 0, none⟩), .agg (ints .u8 id).toArray] w1 fun e w' => e = .returned (erV P (some 13)) ∧ OneS w w' B gs G st ∧ ∀ k, G k → w'.heap[k]? = w1.heap[k]? := by
  obtain ⟨F, h1, h2, h3⟩ := h
  exact (commit_none id (hE.below h3) h1 hid' hlen hk).mono fun e w' ⟨he, hx⟩ => ⟨he, OneS.step h2 h3 hx⟩
theorem usedO (U : Int) (h : OneS w w1 B gs G st) (hG : Good st) (hu : used st.l = U) :
    Calls Tryd.prog 14 #[.pointer (some ⟨gs, 0, none⟩)] w1 fun e w' => e = .returned (.int .i64 U) ∧ OneS w w' B gs G st ∧ Below w1.heap.size w1 w' := by
  subst hu
  have h0 := h
  obtain ⟨F, h1, h2, h3⟩ := h
  exact (usedX h1 hG).mono fun e w' ⟨he, hx⟩ => ⟨he, h0.below hx, hx⟩
theorem newO (quota life : Int) (w w1 : World) (B : Nat) (hB : Below B w w1) (h0 : B ≤ w1.heap.size) (G : Nat → Prop) (hG : ∀ k, G k → k < w1.heap.size) :
    Calls Tryd.prog 10 #[.int .i64 quota, .int .i64 life] w1 fun e w' => ∃ gs, e = .returned (.pointer (some ⟨gs, 0, none⟩)) ∧ OneS w w' B gs G ⟨quota, max life 1, []⟩ ∧ Below w1.heap.size w1 w' :=
  (newX quota life w1 B h0).mono fun e w' ⟨gs, F, he, h1, h2, h3⟩ => ⟨gs, he, ⟨F, h1, fun k hk => ⟨fun hf => by have := h2 k hf; have := hG k hk; omega, Nat.lt_of_lt_of_le (hG k hk) h3.size⟩, hB.trans (h3.mono h0)⟩, h3⟩
end
end Go.Proofs.YtinpilfnnmkpoaaDoor
