/- s[f:], and copy over what one owns. -/
import Derived.Test.YtinpilfnnmkpoaaDoorApp
import Derived.Laws.CopyOwn
namespace Go.Cour
open Go.RowKit
section
variable {P : Program} {w : World} {ops : Array Oper} {rest : List Oper} {o : Oper} {a : Act} {Q : Exit → Act → World → Prop}
/-- Where s[f:] begins. -/
def cutA (A : Option Addr) (c f : Nat) : Option Addr := if c = f then A else A.map (·.add f)
theorem cutA_some {A : Option Addr} {c f m : Nat} (hf : f < m) (hmc : m ≤ c) : cutA A c f = A.map (·.add f) := by unfold cutA; rw [if_neg (by omega)]
theorem cutA_none {A : Option Addr} {c f : Nat} (hA : A = none → c = 0) (h : cutA A c f = none) : c - f = 0 := by
  unfold cutA at h
  split at h
  · omega
  · have := hA (by simpa using h)
    omega
theorem slice_cut (hw : Region.wanted o (yielded ops a.tmps) = true) (x y : Operand) (t : TypeId) (ho : o.op = .slice t x (some y) none none) (e : TypeId)
    (hu : P.underlying t = some (.slice e)) (hsz : (P.info? e).map (·.size) = some 1) (k : IntKind) (A : Option Addr) (m c f : Nat) (hx : a.eval x = .slice A m c) (hy : a.eval y = .int k (f : Int)) (hf : f ≤ m)
    (h : wpList P ops Q rest (a.put o.dst (.slice (cutA A c f) (m - f) (c - f))) w) : wpList P ops Q (o :: rest) a w := by
  obtain ⟨i, hi, hs⟩ : ∃ i, P.info? e = some i ∧ i.size = 1 := by
    cases hie : P.info? e with
    | none => simp [hie] at hsz
    | some i => exact ⟨i, rfl, by simpa [hie] using hsz⟩
  refine wpList_step fun K hK => ?_
  rw [if_pos hw]
  have hs2 : (sizeOf e).run P w = .ok 1 w := by simp [sizeOf, typeInfo, hi, hs]
  have hrun : (Instr.slice t (.slice A m c) (some (.int k (f : Int))) none none).run P w = .ok (.slice (cutA A c f) (m - f) (c - f)) w := by
    simp [Instr.slice, run_underlying hu, Instr.sliceBounds, run_sliceBound, hs2, hf, cutA]
  have hrun2 : (Instr.sliceAt t (.slice A m c) (some (.int k (f : Int))) none none).run P w = .ok (.slice (cutA A c f) (m - f) (c - f)) w := by
    rw [← hrun]; simp [Instr.sliceAt, run_underlying hu]
  unfold Oper.wp execOp
  simp only [ho, hx, hy, Option.map_some, Option.map_none]
  simp only [Sem.run_bind, Sem.run_pure, hrun2, Result.andThen_ok, Functor.map]
  first
    | exact hK _ _ h
    | (simp [hrun2]; exact hK _ _ h)
/-- s[f:] reads what stands from f on. -/
theorem rd_from {A A' : Option Addr} {k : IntKind} {xs : List Int} {f : Nat} (h : Rd w A k xs) (hA : f < xs.length → A' = A.map (·.add f)) : Rd w A' k (xs.drop f) := by
  by_cases hf : f < xs.length
  · rw [hA hf]
    rcases h with h | ⟨g, o, rfl, h⟩
    · exact .inl (by rw [h]; simp)
    · refine .inr ⟨g, o + f, by rw [Option.map_some, add_lit], fun i hi => ?_⟩
      rw [rd_drop, Nat.add_assoc]
      exact h _ (by rw [List.length_drop] at hi; omega)
  · exact .inl (List.drop_eq_nil_of_le (by omega))
/-- What stands behind copy(s[f:], ys). -/
def laid (xs : List Int) (f n : Nat) (ys : List Int) : List Int := xs.take f ++ ys.take n ++ xs.drop (f + n)
theorem laid_length {xs ys : List Int} {f n : Nat} (h1 : f + n ≤ xs.length) (h2 : n ≤ ys.length) : (laid xs f n ys).length = xs.length := by simp [laid]; omega
theorem copy_own (hgd : o.guard = none) (d s : Operand) (dT sT : TypeId)
    (ho : o.op = .call { callee := .builtin .copy, args := #[d, s], argTypes := #[dT, sT] }) (e : TypeId) (hu : P.underlying dT = some (.slice e)) (hsz : (P.info? e).map (·.size) = some 1)
    (k : IntKind) (x : Value) (xs : List Int) (hown : Own w 0 e k x xs) (A : Option Addr) (m c : Nat) (hx : x = .slice A m c) (hm : xs.length = m) (f : Nat) (hf : f ≤ m)
    (A' : Option Addr) (dCap : Nat) (hd : a.eval d = .slice A' (m - f) dCap) (hA' : f < m → A' = A.map (·.add f))
    (Ab : Option Addr) (q sCap : Nat) (ys : List Int) (hs : a.eval s = .slice Ab q sCap) (hq : ys.length = q) (hr : Rd w Ab k ys) (n : Nat) (hn : n = min q (m - f))
    (h : ∀ w', Own w' 0 e k x (laid xs f n ys) → Upd (fun j => x.ownBlock = some j) w w' → wpList P ops Q rest (a.put o.dst (.int .i64 (n : Int))) w') : wpList P ops Q (o :: rest) a w := by
  by_cases h0 : n = 0
  · subst h0
    refine wpList_copy_nothing hgd d s dT sT ho e hu hsz A' Ab (m - f) dCap q sCap hd hs hn.symm ?_
    exact h w (by unfold laid; rw [List.take_zero, List.append_nil, Nat.add_zero, List.take_append_drop]; exact hown) (Upd.refl _ _)
  · have hown0 := hown
    obtain ⟨h1, ⟨h2, h3⟩ | ⟨g, cap, cur, h2, hbg, hh, hnc, hcm, hcs, ht⟩⟩ := hown
    · omega
    · obtain ⟨rfl, hmm, rfl⟩ : A = some ⟨g, 0, none⟩ ∧ m = xs.length ∧ c = cap := by
        rw [hx] at h2; injection h2 with h2 h3 h4; exact ⟨h2, h3, h4⟩
      have hA2 : A' = some ⟨g, f, none⟩ := by rw [hA' (by omega), Option.map_some, add_lit, Nat.zero_add]
      subst hA2
      have hl : (ints k (ys.take n)).length = n := by simp; omega
      obtain ⟨gb, ob, rfl, hcell⟩ : ∃ gb ob, Ab = some ⟨gb, ob, none⟩ ∧ ∀ i, i < ys.length → w.cell? ⟨gb, ob + i, none⟩ = some (.int k (rd ys i)) := by
        rcases hr with hr | hr
        · rw [hr] at hq; simp at hq; omega
        · exact hr
      refine wpList_copy_own hgd d s dT sT ho e hu hsz g f (m - f) dCap ⟨gb, ob, none⟩ q sCap hd hs cur e hh (ints k (ys.take n)) (by rw [hl]; exact hn) ?_ (by rw [hl]; omega) ?_ ?_
      · intro j v hj
        have hj' : j < n := by have := (List.getElem?_eq_some_iff.1 hj).1; omega
        have hjl : j < ys.length := by omega
        rw [ints_get k _ j (by simp; omega)] at hj
        injection hj with hj
        subst hj
        rw [rd_take _ _ _ hj', add_lit]
        exact hcell j hjl
      · intro v hv
        obtain ⟨y, _, rfl⟩ := List.mem_map.1 hv
        rfl
      · rw [hl]
        have hsplit : cur.toList = ints k xs ++ cur.toList.drop m := by
          rw [← List.take_append_drop m cur.toList, List.drop_left' (by simp; omega)]
          rw [Nat.mul_one, ← hmm] at ht
          rw [ht]
        have hrow : cur.toList.take f ++ (ints k (ys.take n) ++ cur.toList.drop (f + n)) = ints k (laid xs f n ys) ++ cur.toList.drop m := by
          generalize cur.toList.drop m = R at hsplit
          have hlx : (ints k xs).length = m := by simp; omega
          rw [hsplit, List.take_append_of_le_length (by omega), List.drop_append_of_le_length (by omega)]
          simp [laid, ints, List.map_take, List.map_drop]
        have hlen := laid_length (xs := xs) (ys := ys) (f := f) (n := n) (by omega) (by omega)
        refine h _ ⟨by simp, .inr ⟨g, c, _, by rw [h2, hlen], Nat.zero_le _, setRow_heap w g cur _ e _ hh, by omega, hcm, ?_, ?_⟩⟩ ((Upd.setRow w g _).mono fun j _ hj => by subst hj; rw [h2]; rfl)
        · simp; omega
        · rw [hrow, List.take_left' (by simp)]
end
end Go.Cour
