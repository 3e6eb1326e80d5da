import Derived.Laws.AppendOwnNone
import Derived.Great.BuildSlice
import Derived.Test.YtinpilfnnmkpoaaDoorProg
import Derived.Laws.CopyOwn
import Derived.Test.YtinpilfnnmkpoaaDoorMgBH0
set_option linter.unusedSimpArgs false
set_option linter.unusedVariables false
/- A region that draws its order, walked once in the order of its text: what reads yields the same wherever a fact T holds of the world; what acts stands in a chain, and keeps T. -/
namespace Go.Cour
/-- Operations that read and no more. -/
def readK : Op → Bool
  | .move _ | .assign _ | .pick _ _ _ | .build _ _ | .load _ _ | .nilCheck _ | .binOp _ _ _ _ _ | .unOp _ _ _ | .makeInterface _ _ | .makeFunc _ _ _ | .fieldAddr _ _ _ | .field _ _ _ | .indexAddr _ _ _ | .index _ _ _ | .extract _ _ | .slice _ _ _ _ _ => true
  | .call c => match c.callee with
    | .builtin .len | .builtin .cap | .builtin .min | .builtin .max => true
    | _ => false
  | .convert _ d _ => d != 41
  | .typeAssert _ _ _ _ => true
  | _ => false
theorem andThen_value {α : Type} {r : Result α} {f : α → Value} {n : Next} {w' : World} (h : r.andThen (fun x w => .ok (Next.value (f x)) w) = .ok n w') : ∃ u, n = .value u := by
  cases r with
  | ok x w => simp only [Result.andThen_ok] at h; injection h with h _; exact ⟨_, h.symm⟩
  | halt x w => simp [Result.andThen] at h
theorem andThen_any {α : Type} {r : Result α} {f : α → World → Result Next} {n : Next} {w' : World} (hf : ∀ x w n w', f x w = .ok n w' → ∃ u, n = .value u) (h : r.andThen f = .ok n w') : ∃ u, n = .value u := by
  cases r with
  | ok x w => exact hf x w n w' h
  | halt x w => simp [Result.andThen] at h
theorem readK_value {P : Program} {o : Oper} {ρ : Operand → Value} {w w' : World} {n : Next} (hk : readK o.op = true) (h : (execOp ρ o).run P w = .ok n w') : ∃ u, n = .value u := by
  unfold execOp at h
  cases hop : o.op <;> simp only [hop, readK, Bool.false_eq_true] at hk h
  case move x => simp at h; exact ⟨_, h.1.symm⟩
  case assign x => simp at h; exact ⟨_, h.1.symm⟩
  case nilCheck x =>
    split at h
    · simp [runtimePanic] at h
    · simp [runtimePanic] at h
    · simp [runtimePanic] at h
    · split at h
      · simp [runtimePanic] at h
      · simp only [Sem.run_bind] at h
        refine andThen_any (fun x w n w' h => ?_) h
        refine andThen_any (fun x w n w' h => ?_) h
        split at h
        · simp [Go.unsupported] at h
        · simp at h; exact ⟨_, h.1.symm⟩
      · simp at h; exact ⟨_, h.1.symm⟩
    · simp at h; exact ⟨_, h.1.symm⟩
  case call c =>
    cases hc : c.callee with
    | value f => simp [hc] at hk
    | invoke r m => simp [hc] at hk
    | builtin b =>
      simp only [hc] at hk
      simp only [resolve, hc, invoke, Sem.run_bind, Sem.run_pure, Result.andThen_ok] at h
      cases b <;> simp at hk <;> simp only [builtin, Sem.run_bind, Sem.run_pure] at h <;> exact andThen_value h
  all_goals (simp only [Sem.run_bind, Sem.run_pure] at h; exact andThen_value h)
theorem put_put_iff (a : Act) {d e : Option Tmp} (x u v : Value) (h : ∀ t, d = some t → e ≠ some t) : (a.put d x).put e u = (a.put d x).put e v ↔ a.put e u = a.put e v := by
  cases e with
  | none => simp [Act.put]
  | some t =>
    cases d with
    | none => simp [Act.put]
    | some s =>
      have hne : s ≠ t := fun he => h s rfl (he ▸ rfl)
      constructor
      · intro h1
        by_cases ht : t < a.tmps.size
        · have h2 := congrArg (fun b : Act => b.tmps[t]?) h1
          have h3 : t < (a.put (some s) x).tmps.size := by rw [put_size]; exact ht
          simp only [put_same _ _ _ h3, Option.some.injEq] at h2
          rw [h2]
        · simp [Act.put, Array.setIfInBounds, ht]
      · intro h1
        rw [Act.put_comm a x u h, Act.put_comm a x v h, h1]
section
variable (P : Program) (ops : Array Oper) (N : Act → World → Prop)
/-- An operation that reads: what the act is behind it; the world is as it was. -/
def Rd1 (o : Oper) (a : Act) (w : World) (v : Value) : Prop :=
  if Region.wanted o (yielded ops a.tmps) then ∃ u, (execOp a.eval o).run P w = .ok (.value u) w ∧ a.put o.dst u = a.put o.dst v
  else a.put o.dst undef = a.put o.dst v
/-- An operation that acts: what holds of its value, and of the world behind it. -/
def V1 (o : Oper) (a : Act) (w : World) (K : Value → World → Prop) : Prop :=
  if Region.wanted o (yielded ops a.tmps) then
    match (execOp a.eval o).run P w with
    | .ok (.value v) w' => K v w'
    | .ok .skip w' => K undef w'
    | .ok (.enter f args) w' => Calls P f args w' fun e w'' => ∃ v, e = .returned v ∧ K v w''
    | .ok (.row row args) w' => Rows P row args w' K
    | _ => False
  else K undef w
theorem waitsT_more {ops : Array Oper} : ∀ (n k i : Nat), waitsT ops n k i = true → waitsT ops (n + 1) k i = true
  | 0, k, i, h => by
    unfold waitsT at h ⊢
    rw [h]; rfl
  | n + 1, k, i, h => by
    unfold waitsT at h ⊢
    rw [Bool.or_eq_true] at h ⊢
    refine h.imp (fun h => h) fun h => ?_
    cases ho : ops[k]? with
    | none => simp [ho] at h
    | some o =>
      simp only [ho] at h ⊢
      obtain ⟨e, he, hb⟩ := Array.any_eq_true'.1 h
      refine Array.any_eq_true'.2 ⟨e, he, ?_⟩
      simp only [Bool.and_eq_true] at hb ⊢
      exact ⟨hb.1, waitsT_more n e.on i hb.2⟩
theorem waitsT_le {ops : Array Oper} {k i : Nat} (n : Nat) : ∀ m, waitsT ops n k i = true → waitsT ops (n + m) k i = true
  | 0, h => h
  | m + 1, h => waitsT_more (n + m) k i (waitsT_le n m h)
/-- Whom operation n waits for, as a number's bits; l: those ahead, the last one first. -/
def maskOf (ops : Array Oper) (n : Nat) (l : List Nat) : Nat := match ops[n]? with
  | none => 0
  | some o => o.after.toList.foldl (fun m e => if Region.binds .any e then m ||| (2 ^ e.on) ||| (if e.on < n then l.getD (n - 1 - e.on) 0 else 0) else m) 0
def reachR (ops : Array Oper) : Nat → List Nat
  | 0 => []
  | n + 1 => maskOf ops n (reachR ops n) :: reachR ops n
theorem mask_bit {n p : Nat} {l : List Nat} : ∀ {es : List Edge} {m : Nat}, (es.foldl (fun m e => if Region.binds .any e then m ||| (2 ^ e.on) ||| (if e.on < n then l.getD (n - 1 - e.on) 0 else 0) else m) m).testBit p = true →
    m.testBit p = true ∨ ∃ e ∈ es, Region.binds .any e = true ∧ (e.on = p ∨ (e.on < n ∧ (l.getD (n - 1 - e.on) 0).testBit p = true))
  | [], m, h => .inl h
  | e :: es, m, h => by
    rw [List.foldl_cons] at h
    rcases mask_bit h with h1 | ⟨e', he', h1⟩
    · by_cases hb : Region.binds .any e = true
      · rw [if_pos hb, Nat.testBit_or, Nat.testBit_or, Bool.or_eq_true, Bool.or_eq_true] at h1
        rcases h1 with (h1 | h1) | h1
        · exact .inl h1
        · rw [Nat.testBit_two_pow] at h1
          exact .inr ⟨e, List.mem_cons_self .., hb, .inl (by simpa using h1)⟩
        · by_cases hlt : e.on < n
          · rw [if_pos hlt] at h1
            exact .inr ⟨e, List.mem_cons_self .., hb, .inr ⟨hlt, h1⟩⟩
          · rw [if_neg hlt] at h1; simp at h1
      · rw [if_neg hb] at h1; exact .inl h1
    · exact .inr ⟨e', List.mem_cons_of_mem _ he', h1⟩
theorem reach_spec (ops : Array Oper) : ∀ (n i : Nat), i < n → ∀ p, ((reachR ops n).getD (n - 1 - i) 0).testBit p = true → waitsT ops (i + 1) i p = true
  | 0, i, h, _, _ => absurd h (Nat.not_lt_zero _)
  | n + 1, i, h, p, hb => by
    by_cases hin : i = n
    · subst hin
      have h0 : i + 1 - 1 - i = 0 := by omega
      rw [h0] at hb
      have hb' : (maskOf ops i (reachR ops i)).testBit p = true := hb
      unfold maskOf at hb'
      cases ho : ops[i]? with
      | none => simp [ho] at hb'
      | some o =>
        simp only [ho] at hb'
        rcases mask_bit hb' with h1 | ⟨e, he, hbi, h1⟩
        · simp at h1
        · unfold waitsT
          rw [Bool.or_eq_true]
          refine .inr ?_
          simp only [ho]
          refine Array.any_eq_true'.2 ⟨e, by simpa using he, ?_⟩
          simp only [Bool.and_eq_true]
          refine ⟨hbi, ?_⟩
          rcases h1 with h1 | ⟨h1, h2⟩
          · rw [h1]
            cases i <;> unfold waitsT <;> simp
          · have h3 := reach_spec ops i e.on h1 p h2
            have h4 := waitsT_le (e.on + 1) (i - (e.on + 1)) h3
            rwa [show e.on + 1 + (i - (e.on + 1)) = i by omega] at h4
    · have h1 : n + 1 - 1 - i = (n - 1 - i) + 1 := by omega
      rw [h1] at hb
      exact reach_spec ops n i (by omega) p hb
/-- Operation i waits for operation p. -/
def dirW (ops : Array Oper) (i p : Nat) : Bool := decide (i < ops.size) && decide (i < 199) && ((reachR ops ops.size).getD (ops.size - 1 - i) 0).testBit p
theorem dirW_waits {ops : Array Oper} {i p : Nat} (h : dirW ops i p = true) : waitsT ops 200 i p = true := by
  unfold dirW at h
  simp only [Bool.and_eq_true, decide_eq_true_eq] at h
  have h1 := reach_spec ops ops.size i h.1.1 p h.2
  have h2 := waitsT_le (i + 1) (200 - (i + 1)) h1
  rwa [show i + 1 + (200 - (i + 1)) = 200 by omega] at h2
/-- An operation that acts, and stands in one order with all others. -/
def totB (ops : Array Oper) (i : Nat) : Bool := (List.range ops.size).all fun j => (decide (i ≤ j) || dirW ops i j) && (decide (j ≤ i) || dirW ops j i)
/-- The operations walked in the order of the text. -/
def wpT : (World → Prop) → List Nat → Act → World → Prop
  | _, [], a, w => N a w
  | T, i :: rest, a, w => match ops[i]? with
    | none => False
    | some o =>
      if readK o.op then ∃ v, (∀ w', T w' → Rd1 P ops o a w' v) ∧ wpT T rest (a.put o.dst v) w
      else V1 P ops o a w fun u w' => if totB ops i then ∃ T', T' w' ∧ wpT T' rest (a.put o.dst u) w' else T w' ∧ wpT T rest (a.put o.dst u) w'
end
section
variable {P : Program} {ops : Array Oper} {T : World → Prop} {N : Act → World → Prop}
theorem Rd1.put {o : Oper} {a : Act} {w : World} {v : Value} {d : Option Tmp} (x : Value) (h1 : ∀ t, d = some t → t ∉ o.looksAt ops) (h2 : ∀ t, d = some t → o.dst ≠ some t) (hs : ∀ cs b, o.op ≠ .select cs b) : Rd1 P ops o (a.put d x) w v ↔ Rd1 P ops o a w v := by
  unfold Rd1
  rw [wanted_put o a d x h1, execOp_put o hs a d x h1]
  simp only [put_put_iff a x _ _ h2]
theorem V1.put {o : Oper} {a : Act} {w : World} {K : Value → World → Prop} {d : Option Tmp} (x : Value) (h1 : ∀ t, d = some t → t ∉ o.looksAt ops) (hs : ∀ cs b, o.op ≠ .select cs b) : V1 P ops o (a.put d x) w K ↔ V1 P ops o a w K := by
  unfold V1
  rw [wanted_put o a d x h1, execOp_put o hs a d x h1]
theorem V1.mono {o : Oper} {a : Act} {w : World} {K K' : Value → World → Prop} (h : V1 P ops o a w K) (hk : ∀ u w', K u w' → K' u w') : V1 P ops o a w K' := by
  unfold V1 at *
  split at h <;> rename_i hw
  · rw [if_pos hw]
    revert h
    cases (execOp a.eval o).run P w with
    | halt x w' => exact fun h => h
    | ok n w' =>
      cases n <;> intro h <;> first | exact hk _ _ h | exact h | skip
      case enter f args => exact Calls.mono h fun e w'' ⟨v, he, hv⟩ => ⟨v, he, hk _ _ hv⟩
      case row row args => exact Rows.mono h fun u w'' hu => hk _ _ hu
  · rw [if_neg hw]; exact hk _ _ h
theorem V1.ex {o : Oper} {a : Act} {w : World} {K : Value → World → Prop} (h : V1 P ops o a w K) : ∃ u w', K u w' := by
  unfold V1 at h
  split at h
  · revert h
    cases (execOp a.eval o).run P w with
    | halt x w' => exact fun h => h.elim
    | ok n w' =>
      cases n <;> intro h <;> first | exact ⟨_, _, h⟩ | exact h.elim | skip
      case enter f args => obtain ⟨e, w'', fr, ⟨v, _, hv⟩, _⟩ := h []; exact ⟨v, w'', hv⟩
      case row row args => obtain ⟨v, w'', hv, _⟩ := h default []; exact ⟨v, w'', hv⟩
  · exact ⟨_, _, h⟩
theorem Rd1.det {o : Oper} {a : Act} {w : World} {u v : Value} (h : Rd1 P ops o a w u) (k : Rd1 P ops o a w v) : a.put o.dst u = a.put o.dst v := by
  unfold Rd1 at *
  split at h <;> rename_i hw
  · rw [if_pos hw] at k
    obtain ⟨x, h1, h2⟩ := h
    obtain ⟨y, h3, h4⟩ := k
    rw [h1] at h3
    injection h3 with h3
    injection h3 with h3
    subst h3
    exact h2.symm.trans h4
  · rw [if_neg hw] at k; exact h.symm.trans k
def noSel (o : Oper) : Prop := ∀ cs b, o.op ≠ .select cs b
/-- What may go ahead goes ahead. -/
theorem wpT_pull (i : Nat) (o : Oper) (post : List Nat) (hi : ops[i]? = some o) (hso : noSel o) : ∀ (pre : List Nat) (a : Act) (w : World), T w → (pre ≠ [] → totB ops i = false) → (∀ j ∈ pre, totB ops j = false ∧ ∃ p, ops[j]? = some p ∧ p.apart ops o = true ∧ (readK p.op || readK o.op) = true ∧ noSel p) → wpT P ops N T (pre ++ i :: post) a w →
    if readK o.op then ∃ v, (∀ w', T w' → Rd1 P ops o a w' v) ∧ wpT P ops N T (pre ++ post) (a.put o.dst v) w
    else V1 P ops o a w fun u w' => if totB ops i then ∃ T', T' w' ∧ wpT P ops N T' (pre ++ post) (a.put o.dst u) w' else T w' ∧ wpT P ops N T (pre ++ post) (a.put o.dst u) w'
  | [], a, w, _, _, _, h => by simpa only [List.nil_append, wpT, hi] using h
  | j :: pre, a, w, hT, hti, hp, h => by
    obtain ⟨htj, p, hj, hap, hrd, hsp⟩ := hp j (List.mem_cons_self ..)
    have hti' := hti (by simp)
    obtain ⟨s1, s2, s3⟩ := Oper.apart_spec hap
    have s4 : ∀ t, o.dst = some t → p.dst ≠ some t := fun t ht hpt => s2 t hpt ht
    have ih := fun a w hT => wpT_pull i o post hi hso pre a w hT (fun _ => hti') (fun q hq => hp q (List.mem_cons_of_mem _ hq))
    simp only [List.cons_append, wpT, hj, htj, hti', Bool.false_eq_true, if_false] at h ih ⊢
    by_cases hkp : readK p.op = true
    · rw [if_pos hkp] at h
      obtain ⟨vp, hvp, h⟩ := h
      have h2 := ih _ _ hT h
      by_cases hko : readK o.op = true
      · rw [if_pos hko] at h2 ⊢
        obtain ⟨v, hv, h3⟩ := h2
        refine ⟨v, fun w' hw' => (Rd1.put vp s1 s2 hso).1 (hv w' hw'), ?_⟩
        rw [if_pos hkp]
        refine ⟨vp, fun w' hw' => (Rd1.put v s3 s4 hsp).2 (hvp w' hw'), ?_⟩
        rw [← Act.put_comm a vp v s2]; exact h3
      · rw [if_neg hko] at h2 ⊢
        refine ((V1.put vp s1 hso).1 h2).mono fun u w' ⟨h3, h4⟩ => ⟨h3, ?_⟩
        rw [if_pos hkp]
        refine ⟨vp, fun w'' hw'' => (Rd1.put u s3 s4 hsp).2 (hvp w'' hw''), ?_⟩
        rw [← Act.put_comm a vp u s2]; exact h4
    · have hko : readK o.op = true := by
        rw [Bool.or_eq_true] at hrd
        exact hrd.resolve_left hkp
      rw [if_neg hkp] at h
      rw [if_pos hko]
      have h2 : V1 P ops p a w fun u w' => T w' ∧ ∃ v, (∀ w'', T w'' → Rd1 P ops o a w'' v) ∧ wpT P ops N T (pre ++ post) ((a.put p.dst u).put o.dst v) w' := h.mono fun u w' ⟨h3, h4⟩ => by
        have h5 := ih _ _ h3 h4
        rw [if_pos hko] at h5
        obtain ⟨v, hv, h6⟩ := h5
        exact ⟨h3, v, fun w'' hw'' => (Rd1.put u s1 s2 hso).1 (hv w'' hw''), h6⟩
      obtain ⟨u0, w0, hT0, v0, hv0, _⟩ := h2.ex
      refine ⟨v0, hv0, ?_⟩
      rw [if_neg hkp]
      refine (V1.put v0 s3 hsp).2 (h2.mono fun u w' ⟨h3, v, hv, h4⟩ => ⟨h3, ?_⟩)
      rw [Act.put_comm a u v s2, (hv w0 hT0).det (hv0 w0 hT0)] at h4
      exact h4
/-- What the law asks of the region's text. -/
def chkTOne (ops : Array Oper) (i : Nat) : Bool :=
  match ops[i]? with
  | none => true
  | some o => (o.after.all fun e => !Region.binds .any e || decide (e.on < i)) && !isSelect o.op &&
    (List.range i).all fun p => dirW ops i p || (match ops[p]? with | some q => q.apart ops o && (readK q.op || readK o.op) | none => true)
def chkT (ops : Array Oper) : Bool := (List.range ops.size).all (chkTOne ops)
structure ChkT (ops : Array Oper) : Prop where
  back : ∀ (i : Nat) (o : Oper), ops[i]? = some o → ∀ e ∈ o.after, Region.binds .any e = true → e.on < i
  sel : ∀ (i : Nat) (o : Oper), ops[i]? = some o → noSel o
  ahead : ∀ (i : Nat) (o : Oper), ops[i]? = some o → ∀ p q, p < i → ops[p]? = some q → waitsT ops 200 i p = true ∨ (q.apart ops o = true ∧ (readK q.op || readK o.op) = true)
theorem chkT_spec (h : chkT ops = true) : ChkT ops := by
  have h1 : ∀ i o, ops[i]? = some o → ((o.after.all fun e => !Region.binds .any e || decide (e.on < i)) = true ∧ isSelect o.op = false) ∧
    ((List.range i).all fun p => dirW ops i p || (match ops[p]? with | some q => q.apart ops o && (readK q.op || readK o.op) | none => true)) = true := fun i o ho => by
    have := List.all_eq_true.1 h i (List.mem_range.2 (Array.getElem?_eq_some_iff.1 ho).1)
    unfold chkTOne at this
    simp only [ho, Bool.and_eq_true, Bool.not_eq_true'] at this
    exact this
  refine ⟨fun i o ho e he hb => ?_, fun i o ho cs b hs => ?_, fun i o ho p q hp hq => ?_⟩
  · have := Array.all_eq_true'.1 (h1 i o ho).1.1 e he
    simpa [hb] using this
  · have := (h1 i o ho).1.2
    rw [hs] at this
    simp [isSelect] at this
  · have := List.all_eq_true.1 (h1 i o ho).2 p (List.mem_range.2 hp)
    simp only [hq, Bool.or_eq_true, Bool.and_eq_true] at this
    rcases this with h2 | ⟨h2, h3⟩
    · exact .inl (dirW_waits h2)
    · exact .inr ⟨h2, by simpa using h3⟩
/-- Whoever stands listed has all that it waits for listed. -/
def Closed (ops : Array Oper) (listed : Array Bool) : Prop := ∀ (j : Nat) (oj : Oper), ops[j]? = some oj → listed.getD j false = true → ∀ e ∈ oj.after, Region.binds .any e = true → listed.getD e.on false = true
theorem Closed.waits {listed : Array Bool} (hc : Closed ops listed) (hl : listed.size = ops.size) : ∀ (n k p : Nat), waitsT ops n k p = true → k < ops.size → listed.getD k false = true → listed.getD p false = true
  | 0, k, p, hw, _, hk => by
    have : k = p := by simpa [waitsT] using hw
    rw [← this]; exact hk
  | n + 1, k, p, hw, hlt, hk => by
    unfold waitsT at hw
    rw [Bool.or_eq_true] at hw
    rcases hw with hw | hw
    · have : k = p := by simpa using hw
      rw [← this]; exact hk
    · cases ho : ops[k]? with
      | none => simp [ho] at hw
      | some o =>
        simp only [ho] at hw
        obtain ⟨e, he, hb⟩ := Array.any_eq_true'.1 hw
        simp only [Bool.and_eq_true] at hb
        have h2 := hc k o ho hk e he hb.1
        have h3 : e.on < ops.size := by
          rcases Nat.lt_or_ge e.on ops.size with h | h
          · exact h
          · have : listed.getD e.on false = false := by simp [Array.getD, show ¬ e.on < listed.size by omega]
            rw [this] at h2; cases h2
        exact hc.waits hl n e.on p hb.2 h3 h2
def unl (listed : Array Bool) (j : Nat) : Bool := !(listed.getD j true)
def rem (ops : Array Oper) (listed : Array Bool) : List Nat := (List.range ops.size).filter (unl listed)
theorem filter_ne_mid {s t : List Nat} {i : Nat} (h : (s ++ i :: t).Pairwise (· < ·)) : (s ++ i :: t).filter (fun j => j != i) = s ++ t := by
  rw [List.filter_append, List.filter_cons]
  have h1 : ∀ j ∈ s, j < i := fun j hj => (List.pairwise_append.1 h).2.2 j hj i (List.mem_cons_self ..)
  have h2 : ∀ j ∈ t, i < j := (List.pairwise_cons.1 (List.pairwise_append.1 h).2.1).1
  simp only [bne_self_eq_false, Bool.false_eq_true, if_false]
  rw [List.filter_eq_self.2 (fun j hj => by simp; have := h1 j hj; omega), List.filter_eq_self.2 (fun j hj => by simp; have := h2 j hj; omega)]
theorem totB_spec {i : Nat} (h : totB ops i = true) : ∀ j, j < ops.size → (j < i → waitsT ops 200 i j = true) ∧ (i < j → waitsT ops 200 j i = true) := fun j hj => by
  have := List.all_eq_true.1 h j (List.mem_range.2 hj)
  simp only [Bool.and_eq_true, Bool.or_eq_true, decide_eq_true_eq] at this
  exact ⟨fun h1 => dirW_waits (this.1.resolve_left (by omega)), fun h1 => dirW_waits (this.2.resolve_left (by omega))⟩
theorem wpAny_T {Q : Exit → Act → World → Prop} (hN : ∀ a w, N a w → Q .normal a w) (hc : ChkT ops) : ∀ (fuel : Nat) (listed : Array Bool) (T : World → Prop) (a : Act) (w : World), T w → listed.size = ops.size → Closed ops listed → (rem ops listed).length ≤ fuel →
    wpT P ops N T (rem ops listed) a w → wpAny P .any ops Q fuel listed a w := by
  have fin : ∀ (listed : Array Bool) (T : World → Prop) (a : Act) (w : World), listed.size = ops.size → Region.ready .any ops listed = [] → wpT P ops N T (rem ops listed) a w → Q .normal a w := fun listed T a w hl hr h => by
    have hall : ∀ n j, j < n → j < ops.size → listed.getD j false = true := fun n => by
      induction n with
      | zero => intro j hj; omega
      | succ n ih =>
        intro j hj hlt
        by_cases hjn : j < n
        · exact ih j hjn hlt
        · have hjn' : j = n := by omega
          subst hjn'
          cases hlj : listed.getD j false with
          | true => rfl
          | false =>
            have hun := getD_in (by rw [hl]; exact hlt) hlj
            have ho : ops[j]? = some ops[j] := Array.getElem?_eq_getElem hlt
            have : j ∈ Region.ready .any ops listed := mem_ready.2 ⟨hun, ops[j], ho, fun e he hb => ih e.on (hc.back j _ ho e he hb) (by have := hc.back j _ ho e he hb; omega)⟩
            rw [hr] at this
            cases this
    have hre : rem ops listed = [] := List.filter_eq_nil_iff.2 fun j hj => by
      have := hall (j + 1) j (by omega) (List.mem_range.1 hj)
      unfold unl
      cases h2 : listed.getD j true with
      | true => simp
      | false => rw [getD_both h2] at this; cases this
    rw [hre] at h
    exact hN _ _ h
  intro fuel
  induction fuel with
  | zero =>
    intro listed T a w hT hl hcl hf h
    have hr : Region.ready .any ops listed = [] := by
      rcases hx : Region.ready .any ops listed with _ | ⟨i, l⟩
      · rfl
      · have hm : i ∈ Region.ready .any ops listed := by rw [hx]; exact List.mem_cons_self ..
        obtain ⟨hun, o, ho, _⟩ := mem_ready.1 hm
        have h1 : i ∈ rem ops listed := List.mem_filter.2 ⟨List.mem_range.2 (Array.getElem?_eq_some_iff.1 ho).1, by simp [unl, hun]⟩
        have h2 := List.length_eq_zero_iff.1 (Nat.le_zero.1 hf)
        rw [h2] at h1
        cases h1
    exact ⟨hr, fin listed T a w hl hr h⟩
  | succ fuel ih =>
    intro listed T a w hT hl hcl hf h
    refine ⟨fun hr => fin listed T a w hl hr h, fun i hir => ?_⟩
    obtain ⟨hun, o, ho, hall⟩ := mem_ready.1 hir
    have hlt := (Array.getElem?_eq_some_iff.1 ho).1
    have him : i ∈ rem ops listed := List.mem_filter.2 ⟨List.mem_range.2 hlt, by simp [unl, hun]⟩
    obtain ⟨s, t, hst⟩ := List.append_of_mem him
    have hpw : (s ++ i :: t).Pairwise (· < ·) := by
      rw [← hst]; exact List.Pairwise.filter _ List.pairwise_lt_range
    have hrem : rem ops (listed.setIfInBounds i true) = s ++ t := by
      rw [← filter_ne_mid hpw, ← hst]
      unfold rem
      rw [List.filter_filter]
      refine List.filter_congr fun j hj => ?_
      unfold unl
      by_cases hij : i = j
      · subst hij
        have h0 : i < listed.size := by rw [hl]; exact hlt
        simp [h0]
      · rw [getD_set_ne true hij]
        simp [Ne.symm hij]
    have hlate : ∀ k ∈ s, waitsT ops 200 i k = true → False := fun k hk hw => by
      have hki : k < i := (List.pairwise_append.1 hpw).2.2 k hk i (List.mem_cons_self ..)
      have hku : k ∈ rem ops listed := by rw [hst]; exact List.mem_append_left _ hk
      have hkun : listed.getD k true = false := by
        have := (List.mem_filter.1 hku).2
        simpa [unl] using this
      have : waitsT ops 200 i k = true := hw
      unfold waitsT at this
      rw [Bool.or_eq_true] at this
      rcases this with h3 | h3
      · have : i = k := by simpa using h3
        omega
      · simp only [ho] at h3
        obtain ⟨e, he, hb⟩ := Array.any_eq_true'.1 h3
        simp only [Bool.and_eq_true] at hb
        have h4 := hcl.waits hl 199 e.on k hb.2 (by have := hc.back i o ho e he hb.1; omega) (hall e he hb.1)
        rw [getD_both hkun] at h4
        cases h4
    have hpre : ∀ j ∈ s, totB ops j = false ∧ ∃ p, ops[j]? = some p ∧ p.apart ops o = true ∧ (readK p.op || readK o.op) = true ∧ noSel p := fun k hk => by
      have hki : k < i := (List.pairwise_append.1 hpw).2.2 k hk i (List.mem_cons_self ..)
      have hks : k < ops.size := by omega
      have hkp : ops[k]? = some ops[k] := Array.getElem?_eq_getElem hks
      refine ⟨?_, ops[k], hkp, ?_⟩
      · cases htk : totB ops k with
        | false => rfl
        | true => exact (hlate k hk ((totB_spec htk i hlt).2 hki)).elim
      · rcases hc.ahead i o ho k _ hki hkp with hw | ⟨h1, h2⟩
        · exact (hlate k hk hw).elim
        · exact ⟨h1, h2, hc.sel k _ hkp⟩
    have hti : s ≠ [] → totB ops i = false := fun hs => by
      cases hti : totB ops i with
      | false => rfl
      | true =>
        obtain ⟨k, hk⟩ := List.exists_mem_of_ne_nil s hs
        have hki : k < i := (List.pairwise_append.1 hpw).2.2 k hk i (List.mem_cons_self ..)
        exact (hlate k hk ((totB_spec hti k (by omega)).1 hki)).elim
    rw [hst] at h
    have hpull := wpT_pull i o t ho (hc.sel i o ho) s a w hT hti hpre h
    rw [← hrem] at hpull
    have hcl' : Closed ops (listed.setIfInBounds i true) := fun j oj hj hl' e he hb => by
      by_cases hij : i = j
      · subst hij
        have : oj = o := Option.some.inj (hj.symm.trans ho)
        subst this
        exact getD_set_true (hall e he hb)
      · rw [getD_set_ne false hij] at hl'
        exact getD_set_true (hcl j oj hj hl' e he hb)
    have hlen : (rem ops (listed.setIfInBounds i true)).length ≤ fuel := by
      rw [hrem]; rw [hst] at hf; simp at hf ⊢; omega
    have next : ∀ (T : World → Prop) u w', T w' → wpT P ops N T (rem ops (listed.setIfInBounds i true)) (a.put o.dst u) w' → wpAny P .any ops Q fuel (listed.setIfInBounds i true) (a.put o.dst u) w' := fun T u w' hT' h' =>
      ih _ _ _ _ hT' (by simp [hl]) hcl' hlen h'
    have nextA : ∀ u w', (if totB ops i then ∃ T', T' w' ∧ wpT P ops N T' (rem ops (listed.setIfInBounds i true)) (a.put o.dst u) w' else T w' ∧ wpT P ops N T (rem ops (listed.setIfInBounds i true)) (a.put o.dst u) w') → wpAny P .any ops Q fuel (listed.setIfInBounds i true) (a.put o.dst u) w' := fun u w' h' => by
      split at h'
      · obtain ⟨T', h1, h2⟩ := h'; exact next T' u w' h1 h2
      · exact next T u w' h'.1 h'.2
    unfold wpOp
    simp only [ho]
    by_cases hko : readK o.op = true
    · rw [if_pos hko] at hpull
      obtain ⟨v, hv, h2⟩ := hpull
      have h3 := hv w hT
      unfold Rd1 at h3
      split at h3 <;> rename_i hw
      · rw [if_pos hw]
        obtain ⟨u, h4, h5⟩ := h3
        refine .inl ?_
        unfold Oper.wp
        rw [h4]
        rw [← h5] at h2
        exact next T u w hT h2
      · rw [if_neg hw]
        rw [← h3] at h2
        exact next T _ w hT h2
    · rw [if_neg hko] at hpull
      unfold V1 at hpull
      split at hpull <;> rename_i hw
      · rw [if_pos hw]
        refine .inl ?_
        unfold Oper.wp
        revert hpull
        cases (execOp a.eval o).run P w with
        | halt x w' => exact fun h => h.elim
        | ok n w' =>
          cases n <;> intro h <;> first | exact h.elim | exact nextA _ _ h | skip
          case enter f args =>
            refine Calls.mono h fun e w'' he => ?_
            obtain ⟨v, rfl, h1⟩ := he
            exact nextA v w'' h1
          case row row args => exact Rows.mono h fun u w'' hu => nextA u w'' hu
      · rw [if_neg hw]
        exact nextA _ w hpull
/-- A region that draws its order, in the order of its text. -/
theorem wp_region_T {id : Nat} {a : Act} {w : World} {Q : Exit → Act → World → Prop} (T : World → Prop) (hm : P.follows .mixedOrders = true) (hc : chkT ops = true) (hT : T w.drew) (h : wpT P ops (fun a' w' => Q .normal a' w') T (List.range ops.size) a w.drew) : (Code.region id ops true).wp P Q a w := by
  refine wp_region_any hm (wpAny_T (N := fun a' w' => Q .normal a' w') (fun _ _ h => h) (chkT_spec hc) ops.size _ T a _ hT (by simp) ?_ ?_ ?_)
  · intro j oj _ hl; rw [getD_replicate_false] at hl; cases hl
  · exact Nat.le_trans (List.length_filter_le _ _) (by simp)
  · have h1 : rem ops (Array.replicate ops.size false) = List.range ops.size := List.filter_eq_self.2 fun j hj => by
      simp [unl, Array.getD, List.mem_range.1 hj]
    rw [h1]; exact h
/-- One that reads. -/
theorem wpT_read {i : Nat} {o : Oper} {rest : List Nat} {a A : Act} {w : World} (hi : ops[i]? = some o) (hT : T w) (hk : readK o.op = true) (h1 : ∀ w', T w' → wpList P ops (fun ex a' w'' => ex = .normal ∧ a' = A ∧ w'' = w') [o] a w') (h2 : wpT P ops N T rest A w) : wpT P ops N T (i :: rest) a w := by
  have hv : ∀ w', T w' → ∃ u, A = a.put o.dst u ∧ Rd1 P ops o a w' u := fun w' hw' => by
    have h := h1 w' hw'
    simp only [wpList] at h
    unfold Rd1
    split at h <;> rename_i hw
    · rcases h with h | ⟨_, _, _, hf, _⟩
      case inr => cases hf
      unfold Oper.wp at h
      cases hx : (execOp a.eval o).run P w' with
      | halt x w1 =>
        rw [hx] at h
        cases x <;> simp [Oper.upon] at h
      | ok n w1 =>
        obtain ⟨u, rfl⟩ := readK_value hk hx
        rw [hx] at h
        simp only [Oper.upon] at h
        obtain ⟨_, h3, h4⟩ := h
        subst h4
        exact ⟨u, h3.symm, by rw [if_pos hw]; exact ⟨u, rfl, rfl⟩⟩
    · exact ⟨undef, h.2.1.symm, by rw [if_neg hw]⟩
  obtain ⟨v, hA, _⟩ := hv w hT
  simp only [wpT, hi]
  rw [if_pos hk]
  refine ⟨v, fun w' hw' => ?_, hA ▸ h2⟩
  obtain ⟨u, hu, hr⟩ := hv w' hw'
  have he : a.put o.dst u = a.put o.dst v := hu.symm.trans hA
  unfold Rd1 at *
  split at hr <;> rename_i hw
  · rw [if_pos hw]; obtain ⟨x, h3, h4⟩ := hr; exact ⟨x, h3, h4.trans he⟩
  · rw [if_neg hw]; exact hr.trans he
theorem V1_of {o : Oper} {a : Act} {w : World} {K : Act → World → Prop} (h : wpList P ops (fun ex a' w' => ex = .normal ∧ a'.defers = a.defers ∧ K a' w') [o] a w) : V1 P ops o a w fun u w' => K (a.put o.dst u) w' := by
  simp only [wpList] at h
  unfold V1
  split at h <;> rename_i hw
  · rw [if_pos hw]
    rcases h with h | ⟨_, _, _, hf, _⟩
    case inr => cases hf
    unfold Oper.wp at h
    revert h
    cases (execOp a.eval o).run P w with
    | halt x w' => intro h; cases x <;> simp [Oper.upon] at h
    | ok n w' =>
      cases n <;> intro h <;> simp only [Oper.upon] at h ⊢ <;> first | exact h.elim | exact h.2.2 | skip
      case defer d =>
        have := h.2.1
        rw [put_defers] at this
        exact absurd (congrArg List.length this) (by simp)
      case enter f args =>
        refine Calls.mono h fun e w'' he => ?_
        cases e with
        | returned u => exact ⟨u, rfl, he.2.2⟩
        | panicked c => exact absurd he.1 (by intro h; cases h)
        | outgrown => obtain ⟨_, _, hf, _⟩ := he; cases hf
      case row row args => exact Rows.mono h fun u w'' hu => hu.2.2
  · rw [if_neg hw]; exact h.2.2
/-- One that acts. -/
theorem wpT_act {i : Nat} {o : Oper} {rest : List Nat} {a : Act} {w : World} (hi : ops[i]? = some o) (hk : readK o.op = false) (h : wpList P ops (fun ex a' w' => ex = .normal ∧ a'.defers = a.defers ∧ T w' ∧ wpT P ops N T rest a' w') [o] a w) : wpT P ops N T (i :: rest) a w := by
  simp only [wpT, hi]
  rw [if_neg (by rw [hk]; decide)]
  refine (V1_of h).mono fun u w' hu => ?_
  split
  · exact ⟨T, hu⟩
  · exact hu
/-- One that acts, in one order with all others: behind it another fact may hold. -/
theorem wpT_tot {i : Nat} {o : Oper} {rest : List Nat} {a : Act} {w : World} (T' : World → Prop) (hi : ops[i]? = some o) (hk : readK o.op = false) (ht : totB ops i = true) (h : wpList P ops (fun ex a' w' => ex = .normal ∧ a'.defers = a.defers ∧ T' w' ∧ wpT P ops N T' rest a' w') [o] a w) : wpT P ops N T (i :: rest) a w := by
  simp only [wpT, hi]
  rw [if_neg (by rw [hk]; decide)]
  refine (V1_of h).mono fun u w' hu => ?_
  rw [if_pos ht]; exact ⟨T', hu.1, hu.2⟩
theorem wpT_end {a : Act} {w : World} (h : N a w) : wpT P ops N T [] a w := h
theorem wpT_fin {Q : Exit → Act → World → Prop} {a : Act} {w : World} (h : Q .normal a w) : wpT P ops (fun a' w' => Q .normal a' w') T [] a w := h
end
end Go.Cour
/- The store's Stat and Open. -/
namespace Go.Proofs.YtinpilfnnmkpoaaDoor
open Go.RowKit Go.Cour
/-- api's errors, all of them below B. -/
structure ErrsAt (w : World) (P : Nat → Addr) (B : Nat) : Prop where
  errs : Errs w P
  glob : ∀ i, i < 19 → globs.getD i 0 < B
  at_ : ∀ i, i < 19 → (P i).block < B
theorem ErrsAt.of {w : World} {P : Nat → Addr} (h : Errs w P) : ErrsAt w P w.heap.size :=
  ⟨h, fun i hi => lt_of_cell (h.cell i hi), fun i hi => by obtain ⟨c, t, hc⟩ := h.froz i hi; exact (Array.getElem?_eq_some_iff.1 hc).1⟩
theorem ErrsAt.below {w w' : World} {P : Nat → Addr} {B : Nat} (h : ErrsAt w P B) (hb : Below B w w') : ErrsAt w' P B :=
  ⟨⟨fun i hi => (hb.cell (p := ⟨globs.getD i 0, 0, none⟩) (h.glob i hi)).trans (h.errs.cell i hi), h.errs.inj, fun i hi => by
    obtain ⟨c, t, hc⟩ := h.errs.froz i hi
    exact ⟨c, t, (hb.block _ (h.at_ i hi)).trans hc⟩⟩, h.glob, h.at_⟩
/-- An error, or none. -/
def erV (P : Nat → Addr) : Option Nat → Value
  | none => .nilIface
  | some k => errV (P k)
/-- The store is another one now; nothing else has changed. -/
def Becomes (w : World) (F : Nat → Prop) (gs : Nat) (w' : World) (st' : StoreD) : Prop := ∃ F' v vs F2, StoreAt w' F' gs st' v vs F2 ∧ Sub F' F w ∧ Upd F w w'
/-- Three results, each in a slot. -/
theorem results_tmp3 {P : Program} {fn : Func} {p q r : Tmp} (h : fn.results = #[.tmp p, .tmp q, .tmp r]) (tmps : Array Value) (w : World) {u v x : Value} (hp : tmps.getD p undef = u) (hq : tmps.getD q undef = v) (hr : tmps.getD r undef = x) :
    (results fn tmps).run P w = .ok (.tuple #[u, v, x]) w := by
  have hp' : tmps[p]?.getD undef = u := by simpa using hp
  have hq' : tmps[q]?.getD undef = v := by simpa using hq
  have hr' : tmps[r]?.getD undef = x := by simpa using hr
  simp [results, h, hp', hq', hr']
def statOf (id : List Int) (l : List Item) : Int × Bool × Option Nat := match l[posOf id l]? with
  | some x => ((x.b.length : Int), x.done, none)
  | none => (0, false, some 13)
set_option maxHeartbeats 1000000 in
set_option maxRecDepth 100000 in
theorem stat_calls {w : World} {P : Nat → Addr} {B : Nat} {F F2 : Nat → Prop} {gs : Nat} {st : StoreD} {v : Value} {vs : List Value} (id : List Int) (hE : ErrsAt w P B) (hBw : B ≤ w.heap.size) (hF : ∀ k, F k → B ≤ k) (h : StoreAt w F gs st v vs F2) (hid' : id.length = 32) (hlen : st.l.length ≤ 1000000) :
    Calls Tryd.prog 16 #[.pointer (some ⟨gs, 0, none⟩), .agg (ints .u8 id).toArray] w fun e w' => e = .returned (.tuple #[.int .i64 (statOf id st.l).1, .bool (statOf id st.l).2.1, erV P (statOf id st.l).2.2]) ∧ Becomes w F gs w' { st with l := touch id st.l } := by
  have HI := hid hid'
  have H := hid h
  have HLEN := hid hlen
  clear hid' hlen
  by_cases hk : posOf id st.l < st.l.length
  · obtain ⟨x, g, vb, hx, hu, hxl, hb, ho, hFg, hFb, hgs, hvg, hvb, hback⟩ := h.focus _ hk
    obtain ⟨A, c, hvb2, hc, _, _⟩ := ho.parts
    have hr : vs.getD (posOf id st.l) (.pointer none) = .pointer (some ⟨g, 0, none⟩) := by rw [List.getD_eq_getElem?_getD, hu]; rfl
    have hr := hid hr
    have hso : Hd (statOf id st.l = ((x.b.length : Int), x.done, none)) := hid (by unfold statOf; rw [hx])
    rw [hso.out]
    have HT := hid (touch_some hx)
    have HK := hid hk
    clear hback ho hgs hvg hvb hFg hFb hk h hb
    go_enter Tryd.func16, Tryd.ntmps16
    go_wp2_with (first
      | (refine box_blk rfl 30 _ rfl _ rfl (ints .u8 id) rfl ?_; intro gb w1 hgb hbb hB1 hs1
         clear hgb hs1)
      | (refine load_blk rfl 30 _ rfl gb rfl 30 _ hbb 32 5 arrHash (by simp [ints, HI.out]) infoHash ?_)
      | (go_at_call 27; refine (named_calls id (H.out.below hB1) HI.out HLEN.out).mono ?_
         rintro e w2 ⟨he, ⟨F', F2', hst, hsub⟩, hup⟩
         rw [hr.out] at he
         subst he
         obtain ⟨x2, g2, vb2, hx2, hu2, hxl2, hb2, ho2, _⟩ := hst.focus (posOf id st.l) (by rw [HT.out]; simpa using HK.out)
         rw [hu] at hu2
         injection hu2 with hu2; injection hu2 with hu2; injection hu2 with hu2; injection hu2 with hu2
         subst hu2
         have hx3 : x2 = { x with age := 0 } := by
           rw [HT.out, List.getElem?_set_self HK.out] at hx2
           injection hx2 with hx2; exact hx2.symm
         obtain ⟨A2, c2, hv2, _, _, _⟩ := ho2.parts
         have c33 : w2.cell? ⟨g, 33, none⟩ = some (.slice A2 x.b.length c2) := by rw [hb2.cell]; have := itemC_at x2 vb2 hxl2 1; rw [this]; simp [hv2, hx3]
         have c34 : w2.cell? ⟨g, 34, none⟩ = some (.bool x.done) := by rw [hb2.cell]; have := itemC_at x2 vb2 hxl2 2; rw [this]; simp [hx3]
         clear hb2 ho2 hu hx2 hbb)
      | fail)
    go_quiet (fail)
    go_wp2_with fail
    refine bodyPost_ret (results_tmp3 rfl _ _ rfl rfl rfl) rfl ?_
    refine ⟨rfl, F', v, vs, F2', hst.below (below_drewN (Below.refl _ _) _), fun k hk => ?_, ((Upd.of_below hB1 F).trans hup (fun j _ hj => hj)).drewN _⟩
    rcases hsub k hk with h1 | h1
    · exact .inl h1
    · have := hB1.size; exact .inr (by omega)
  · have HT := hid (touch_none (id := id) (l := st.l) hk)
    have hsl := h.star.length
    have hr : vs.getD (posOf id st.l) (.pointer none) = .pointer none := by rw [List.getD_eq_getElem?_getD, List.getElem?_eq_none (by omega)]; rfl
    have hr := hid hr
    have hso : Hd (statOf id st.l = (0, false, some 13)) := hid (by unfold statOf; rw [List.getElem?_eq_none (by omega)])
    rw [hso.out]
    clear hk hsl h
    go_enter Tryd.func16, Tryd.ntmps16
    go_wp2_with (first
      | (refine box_blk rfl 30 _ rfl _ rfl (ints .u8 id) rfl ?_; intro gb w1 hgb hbb hB1 hs1
         clear hgb hs1)
      | (refine load_blk rfl 30 _ rfl gb rfl 30 _ hbb 32 5 arrHash (by simp [ints, HI.out]) infoHash ?_)
      | (go_at_call 27; refine (named_calls id (H.out.below hB1) HI.out HLEN.out).mono ?_
         rintro e w2 ⟨he, ⟨F', F2', hst, hsub⟩, hup⟩
         rw [hr.out] at he
         subst he
         have hu2 := (Upd.of_below hB1 F).trans hup (fun j _ hj => hj)
         have e13 := (hE.below (hu2.below hBw hF)).errs.cell 13 (by omega)
         simp only [globs, List.getD_cons_zero, List.getD_cons_succ] at e13
         clear hbb)
      | fail)
    go_quiet (fail)
    go_wp2_with fail
    refine bodyPost_ret (results_tmp3 rfl _ _ rfl rfl rfl) rfl ?_
    refine ⟨rfl, F', v, vs, F2', hst.below (below_drewN (Below.refl _ _) _), fun k hk => ?_, hu2.drewN _⟩
    rcases hsub k hk with h1 | h1
    · exact .inl h1
    · have := hB1.size; exact .inr (by omega)
end Go.Proofs.YtinpilfnnmkpoaaDoor
/- append(s, ..) where s is one's own: where the new slice lies. -/
namespace Go.Cour
open Go.RowKit
section
variable {P : Program} {w : World} {ops : Array Oper} {rest : List Oper} {o : Oper} {a : Act} {Q : Exit → Act → World → Prop}
/-- Where the new slice lies: where the old one did, or in a new block. -/
def Lies (v v' : Value) (w : World) : Prop := v'.ownBlock = v.ownBlock ∨ v'.ownBlock = some w.heap.size
theorem append_lies (t ty e : TypeId) (i : TypeInfo) (z : Value) (size bytes : Nat) (ht : P.underlying t = some (.slice e)) (hi : P.info? e = some i) (hz : i.zero = some z)
    (hsize : i.size = size) (hby : i.bytes = bytes)
    (v : Value) (n : Nat) (xs : List Value) (hown : w.ownsRow 0 e size v n xs)
    (ad : Addr) (m c : Nat) (news : List Value) (hl : news.length = m * size) (hnews : ∀ j u, news[j]? = some u → w.cell? (ad.add j) = some u) (h1 : ∀ u ∈ news, u.oneCell' = true)
    (h63 : n + m ≤ maxLen) (hbytes : (n + m) * bytes ≤ 140737488355328) {v' : Value} {w' : World} (hr : (Builtin.append_ #[t, t] ty #[v, .slice (some ad) m c]).run P w = .ok v' w') : Lies v v' w := by
  subst hsize
  subst hby
  have hsmall : n + m ≤ 9223372036854775807 := by simp only [maxLen] at h63; omega
  rcases hown.2 with ⟨rfl, rfl⟩ | ⟨g, cap, cur, rfl, hbg, hg, hnc, hcm, hcs, htake⟩
  · by_cases hm : m = 0
    · subst hm
      have hn : news = [] := List.eq_nil_of_length_eq_zero (by simpa using hl)
      subst hn
      simp [Builtin.append_, run_underlying ht, sizeOf, typeInfo, hi, Builtin.lenOf, Builtin.firstCells, loadCells, loadCellsFrom] at hr
      exact .inl (by rw [← hr.1])
    · have hr2 := run_append_nil (P := P) w t ty e i z ht hi hz ad m c news hl hnews (by omega) (by omega) (by have hb := hbytes; simp only [Nat.zero_add] at hb; omega)
      rw [hr2] at hr
      injection hr with hr _
      exact .inr (by rw [← hr]; rfl)
  · by_cases hroom : n + m ≤ cap
    · have hfit : n * i.size + news.length ≤ cur.size := by rw [hl, hcs, ← Nat.add_mul]; exact Nat.mul_le_mul_right _ hroom
      have hr2 := run_append_room (P := P) w t ty e i ht hi g n cap cur hg ad m c news hl hnews h1 hroom hfit
      rw [hr2] at hr
      injection hr with hr _
      exact .inl (by rw [← hr]; rfl)
    · have holds : ∀ j u, xs[j]? = some u → w.cell? ((⟨g, 0, none⟩ : Addr).add j) = some u := hown.cells (g := g) rfl
      have hr2 := run_append_grow (P := P) w t ty e i z ht hi hz ⟨g, 0, none⟩ n cap xs hown.1 holds ad m c news hl hnews (by omega) (by omega) (growslice_fits (by omega) hbytes)
      rw [hr2] at hr
      injection hr with hr _
      exact .inr (by rw [← hr]; rfl)
theorem app_row (hw : Region.wanted o (yielded ops a.tmps) = true) (s x : Operand) (t : TypeId)
    (ho : o.op = .call { callee := .builtin .append, args := #[s, x], argTypes := #[t, t] })
    (e : TypeId) (i : TypeInfo) (z : Value) (size bytes : Nat) (ht : P.underlying t = some (.slice e)) (hi : P.info? e = some i) (hz : i.zero = some z)
    (hsize : i.size = size) (hby : i.bytes = bytes) (hzs : z.cells.size = size) (hsz : 0 < size)
    (v : Value) (n : Nat) (xs : List Value) (hs : a.eval s = v) (hown : w.ownsRow 0 e size v n xs)
    (ad : Addr) (m c : Nat) (news : List Value) (hx : a.eval x = .slice (some ad) m c) (hl : news.length = m * size) (hnews : ∀ j u, news[j]? = some u → w.cell? (ad.add j) = some u) (h1 : ∀ u ∈ news, u.oneCell' = true)
    (h63 : n + m ≤ maxLen) (hbytes : (n + m) * bytes ≤ 140737488355328)
    (h : ∀ v' w', w'.ownsRow 0 e size v' (n + m) (xs ++ news) → w.grownBy w' v.ownBlock → Lies v v' w → wpList P ops Q rest (a.put o.dst v') w') : wpList P ops Q (o :: rest) a w := by
  refine wpList_step fun K hK => ?_
  rw [if_pos hw]
  obtain ⟨v', w', hr, h2, h3, _⟩ := run_append_own (P := P) w 0 t o.type e i z size bytes ht hi hz hsize hby hzs hsz v n xs hown ad m c news hl hnews h1 h63 hbytes (Nat.zero_le _)
  have h4 := append_lies (P := P) (w := w) t o.type e i z size bytes ht hi hz hsize hby v n xs hown ad m c news hl hnews h1 h63 hbytes hr
  unfold Oper.wp execOp
  simp only [ho, resolve, invoke, builtin, Sem.run_bind, Sem.run_pure, Result.andThen_ok, List.map_toArray, List.map_cons, List.map_nil, hs, hx, hr]
  exact hK _ _ (h v' w' h2 h3 h4)
/-- One value of one cell more. -/
theorem app_val (hw : Region.wanted o (yielded ops a.tmps) = true) (s x : Operand) (t : TypeId)
    (ho : o.op = .call { callee := .builtin .append, args := #[s, x], argTypes := #[t, t] })
    (e : TypeId) (bytes : Nat) (ht : P.underlying t = some (.slice e)) (hi : (P.info? e).map (fun i => (i.zero.map (·.cells.size), i.size, i.bytes)) = some (some 1, 1, bytes))
    (v : Value) (cs : List Value) (hs : a.eval s = v) (hown : OwnV w 0 e v cs)
    (g : Nat) (u : Value) (hx : a.eval x = .slice (some ⟨g, 0, none⟩) 1 1) (hg : Blk w g e [u]) (h1 : u.oneCell' = true)
    (hbytes : (cs.length + 1) * bytes ≤ 140737488355328) (h63 : cs.length + 1 ≤ 140737488355328)
    (h : ∀ v' w', OwnV w' 0 e v' (cs ++ [u]) → w.grownBy w' v.ownBlock → Lies v v' w → wpList P ops Q rest (a.put o.dst v') w') :
    wpList P ops Q (o :: rest) a w := by
  cases hie : P.info? e with
  | none => simp [hie] at hi
  | some i =>
    cases hz : i.zero with
    | none => simp [hie, hz] at hi
    | some z =>
      simp [hie, hz] at hi
      refine app_row hw s x t ho e i z 1 bytes ht hie hz hi.2.1 hi.2.2 (by simpa using hi.1) (by omega) v cs.length cs hs hown ⟨g, 0, none⟩ 1 1 [u] hx (by simp) ?_ ?_ (by unfold maxLen; omega) hbytes ?_
      · intro j u' hj
        rw [add_lit, Nat.zero_add, hg.cell]
        exact hj
      · intro u' hu'
        obtain rfl := List.mem_singleton.1 hu'
        exact h1
      · intro v' w' h2 h3 h4
        refine h v' w' ?_ h3 h4
        unfold OwnV
        rw [List.length_append]
        exact h2
/-- Numbers more. -/
theorem app_ints (hw : Region.wanted o (yielded ops a.tmps) = true) (s x : Operand) (t : TypeId)
    (ho : o.op = .call { callee := .builtin .append, args := #[s, x], argTypes := #[t, t] })
    (e : TypeId) (k : IntKind) (bytes : Nat) (ht : P.underlying t = some (.slice e)) (hi : (P.info? e).map (fun i => (i.zero, i.size, i.bytes)) = some (some (.int k 0), 1, bytes))
    (v : Value) (xs : List Int) (hs : a.eval s = v) (hown : Own w 0 e k v xs)
    (A : Option Addr) (m c : Nat) (ys : List Int) (hx : a.eval x = .slice A m c) (hm : m = ys.length) (hA : A = none → c = 0) (hr : Rd w A k ys)
    (hbytes : (xs.length + ys.length) * bytes ≤ 140737488355328) (h63 : xs.length + ys.length ≤ 140737488355328)
    (h : ∀ v' w', Own w' 0 e k v' (xs ++ ys) → w.grownBy w' v.ownBlock → Lies v v' w → wpList P ops Q rest (a.put o.dst v') w') : wpList P ops Q (o :: rest) a w := by
  obtain ⟨i, hi0, hz0, hz1, hz2⟩ := info_parts hi
  subst hm
  have h1 : ∀ u ∈ ints k ys, u.oneCell' = true := by
    intro u hu
    obtain ⟨y, _, rfl⟩ := List.mem_map.1 hu
    rfl
  cases A with
  | none =>
    have hy : ys = [] := by
      rcases hr with hr | ⟨g, o, he, _⟩
      · exact hr
      · cases he
    subst hy
    obtain rfl := hA rfl
    refine wpList_step fun K hK => ?_
    rw [if_pos hw]
    have hrun := run_append_owned_none (P := P) (w := w) 0 t o.type e i 1 ht hi0 v xs.length (ints k xs) hown
    unfold Oper.wp
    simp [execOp, ho, resolve, invoke, builtin, hs, hx, hrun, Result.andThen]
    refine hK _ _ (h v w ?_ (World.grownBy.refl _ _) (.inl rfl))
    rw [List.append_nil]
    exact hown
  | some ad =>
    refine app_row hw s x t ho e i (.int k 0) 1 bytes ht hi0 hz0 hz1 hz2 rfl (by decide) v xs.length (ints k xs) hs hown ad ys.length c (ints k ys) hx (by simp) ?_ h1 (by unfold maxLen; omega) hbytes ?_
    · intro j u hj
      rcases hr with hr | ⟨g, o', he, hr⟩
      · subst hr; simp [ints] at hj
      · injection he with he
        subst he
        have hjl : j < ys.length := by
          have := (List.getElem?_eq_some_iff.1 hj).1
          simpa using this
        rw [ints_get k ys j hjl] at hj
        injection hj with hj
        subst hj
        rw [add_lit]
        exact hr j hjl
    · intro v' w' ho' hg' h4
      refine h v' w' ?_ hg' h4
      unfold Own
      rw [List.length_append, ints_append]
      exact ho'
end
end Go.Cour
/- The numbers of api's errors. -/
namespace Go.Proofs.YtinpilfnnmkpoaaDoor
open Go.RowKit Go.Cour
/-- All of them, in order. -/
def errL (P : Nat → Addr) : List Value := [errV (P 0), errV (P 1), errV (P 2), errV (P 3), errV (P 4), errV (P 5), errV (P 6), errV (P 7), errV (P 8), errV (P 9), errV (P 10), errV (P 11), errV (P 12), errV (P 13), errV (P 14), errV (P 15), errV (P 16), errV (P 17), errV (P 18)]
theorem errL_get (P : Nat → Addr) (i : Nat) (h : i < 19) : (errL P)[i]? = some (errV (P i)) := by
  have h1 : i = 0 ∨ i = 1 ∨ i = 2 ∨ i = 3 ∨ i = 4 ∨ i = 5 ∨ i = 6 ∨ i = 7 ∨ i = 8 ∨ i = 9 ∨ i = 10 ∨ i = 11 ∨ i = 12 ∨ i = 13 ∨ i = 14 ∨ i = 15 ∨ i = 16 ∨ i = 17 ∨ i = 18 := by omega
  rcases h1 with rfl | rfl | rfl | rfl | rfl | rfl | rfl | rfl | rfl | rfl | rfl | rfl | rfl | rfl | rfl | rfl | rfl | rfl | rfl <;> rfl
theorem errL_cells (P : Nat → Addr) : ∀ u ∈ errL P, u.cells = #[u] := by
  intro u hu
  obtain ⟨i, hi⟩ := List.getElem?_of_mem hu
  have hl : i < 19 := by
    have := (List.getElem?_eq_some_iff.1 hi).1
    simpa [errL] using this
  rw [errL_get P i hl] at hi
  injection hi with hi
  subst hi
  rfl
theorem undLErr : Tryd.prog.underlying 95 = some (.slice 27) := by kernel_rfl
theorem sizeErr : (Tryd.prog.info? 27).map (·.size) = some 1 := by kernel_rfl
theorem zeroErr : ((Tryd.prog.info? 27).bind (·.zero)).isSome = true := by kernel_rfl
/-- A slice literal of values of one cell each. -/
theorem literal_vals {P : Program} {ops : Array Oper} {rest : List Oper} {o : Oper} {a : Act} {w : World} {Q : Exit → Act → World → Prop} (hw : Region.wanted o (yielded ops a.tmps) = true) (t e : TypeId) (len : Nat) (parts : Array (Nat × Operand)) (ho : o.op = .buildSlice t len parts)
    (us : List Value) (hparts : (parts.map fun (i, x) => (i, a.eval x)).toList = (us.zipIdx 0).map fun x => (x.2, x.1)) (h1 : ∀ u ∈ us, u.cells = #[u])
    (ht : P.underlying t = some (.slice e)) (hsz : (P.info? e).map (·.size) = some 1) (hz : ((P.info? e).bind (·.zero)).isSome = true) (hlen : len = us.length) (hpos : 0 < len) (hsmall : len ≤ 2 ^ 24)
    (h : ∀ (g : Nat) (w' : World), w.heap.size = g → Blk w' g e us → Below w.heap.size w w' → w'.heap.size = g + 1 → wpList P ops Q rest (a.put o.dst (.slice (some ⟨g, 0, none⟩) len len)) w') :
    wpList P ops Q (o :: rest) a w := by
  have h2 := h w.heap.size _ rfl (Blk.new w e us) ((Below.refl _ _).alloc (Nat.le_refl _) _) (by simp)
  cases hie : P.info? e with
  | none => simp [hie] at hsz
  | some ie =>
    simp only [hie, Option.map_some, Option.some.injEq, Option.bind_some] at hsz hz
    obtain ⟨z, hzz⟩ := Option.isSome_iff_exists.1 hz
    refine wpList_step fun K hK => ?_
    rw [if_pos hw]
    refine wp_buildSlice t e len _ ho us.toArray ie z ht hie hzz (by rw [hsz]; omega) (by rw [hsz]; omega) ?_ (hK _ _ h2)
    rw [hparts, hsz]
    exact Great.fill_flat us _ h1 (by simp [hlen])
set_option maxHeartbeats 1000000 in
set_option maxRecDepth 100000 in
theorem sentinels_calls {w : World} {P : Nat → Addr} (h : Errs w P) :
    Calls Tryd.prog 50 #[] w fun e w' => ∃ g, e = .returned (.slice (some ⟨g, 0, none⟩) 19 19) ∧ w.heap.size ≤ g ∧ Blk w' g 27 (errL P) ∧ Below w.heap.size w w' := by
  have e0 := h.cell 0 (by omega)
  have e1 := h.cell 1 (by omega)
  have e2 := h.cell 2 (by omega)
  have e3 := h.cell 3 (by omega)
  have e4 := h.cell 4 (by omega)
  have e5 := h.cell 5 (by omega)
  have e6 := h.cell 6 (by omega)
  have e7 := h.cell 7 (by omega)
  have e8 := h.cell 8 (by omega)
  have e9 := h.cell 9 (by omega)
  have e10 := h.cell 10 (by omega)
  have e11 := h.cell 11 (by omega)
  have e12 := h.cell 12 (by omega)
  have e13 := h.cell 13 (by omega)
  have e14 := h.cell 14 (by omega)
  have e15 := h.cell 15 (by omega)
  have e16 := h.cell 16 (by omega)
  have e17 := h.cell 17 (by omega)
  have e18 := h.cell 18 (by omega)
  simp only [globs, List.getD_cons_zero, List.getD_cons_succ] at e0 e1 e2 e3 e4 e5 e6 e7 e8 e9 e10 e11 e12 e13 e14 e15 e16 e17 e18
  go_enter Tryd.func50, Tryd.ntmps50
  go_wp2_with (first
    | (refine literal_vals rfl 95 27 19 _ rfl (errL P) (by kernel_rfl) (errL_cells P) undLErr sizeErr zeroErr rfl (by omega) (by omega) ?_; intro g w1 hg hb hB hs)
    | fail)
  go_ret
  exact ⟨g, rfl, by omega, hb, hB⟩
set_option maxHeartbeats 1000000 in
set_option maxRecDepth 100000 in
theorem sentinel_calls {w : World} {P : Nat → Addr} (h : Errs w P) (k : Nat) (hk : k < 19) :
    Calls Tryd.prog 47 #[errV (P k)] w fun e w' => e = .returned (.int .i64 (101 + (k : Int))) ∧ Below w.heap.size w w' := by
  go_enter Tryd.func47, Tryd.ntmps47
  go_wp2_with (first
    | (go_at_call 50; refine (sentinels_calls h).mono ?_; rintro e w1 ⟨g, rfl, hg, hb, hB⟩)
    | fail)
  go_loopg [4] (k + 1) (fun kq v4 wr => ∃ i : Nat, i ≤ k ∧ v4 = .int .i64 i ∧ Hd (kq + i = k + 1) ∧ wr = w1)
  case atStart => exact ⟨0, by omega, rfl, hid (by omega), rfl⟩
  case round =>
    obtain ⟨i, hi, rfl, hq, rfl⟩ := hrel
    have hi19 : (i : Int) < 19 := by omega
    have hc : wr.cell? ⟨g, i, none⟩ = some (errV (P i)) := by rw [hb.cell, errL_get P i (by omega)]
    by_cases hik : k = i
    · subst hik
      have hd : decide (k = k) = true := decide_eq_true rfl
      have hd := hid hd
      go_wp2_with (first
        | (go_at_call 51; refine (alike_calls (h.below hB) k k hk hk).mono ?_; rintro e w2 ⟨he, hw2⟩; rw [hd.out] at he; subst he; subst w2)
        | fail)
      go_ret
      exact ⟨rfl, hB⟩
    · have hd := hid (decide_eq_false hik)
      have hik2 := hid hik
      clear hik
      go_wp2_with (first
        | (go_at_call 51; refine (alike_calls (h.below hB) k i hk (by omega)).mono ?_; rintro e w2 ⟨he, hw2⟩; rw [hd.out] at he; subst he; subst w2)
        | fail)
      go_roundg (gk - 1)
      case measure => have := hq.out; omega
      case rel => exact ⟨i + 1, by have := hik2.out; omega, by go_num, hid (by have := hq.out; omega), rfl⟩
end Go.Proofs.YtinpilfnnmkpoaaDoor
/- The store's Open. -/
namespace Go.Proofs.YtinpilfnnmkpoaaDoor
open Go.RowKit Go.Cour
def newItem (id : List Int) (n : Int) : Item := ⟨id, n, [], false, 0⟩
def openE (st : StoreD) (id : List Int) (n : Int) : Option Nat :=
  if n < 1 ∨ 30000 < n then some 1 else if posOf id st.l < st.l.length then some 14 else if 16 ≤ st.l.length then some 17 else if st.quota - used st.l < n then some 6 else none
def openS (st : StoreD) (id : List Int) (n : Int) : StoreD :=
  if n < 1 ∨ 30000 < n then st else if posOf id st.l < st.l.length then { st with l := touch id st.l } else if 16 ≤ st.l.length then st else if st.quota - used st.l < n then st else { st with l := st.l ++ [newItem id n] }
theorem Becomes.same {w w' : World} {F F2 : Nat → Prop} {gs : Nat} {st : StoreD} {v : Value} {vs : List Value} (h : StoreAt w F gs st v vs F2) (hb : Below w.heap.size w w') : Becomes w F gs w' st :=
  ⟨F, v, vs, F2, h.below hb, Sub.refl _ _, Upd.of_below hb F⟩
theorem builtItem (id : List Int) (n : Int) (h : id.length = 32) : Tryd.prog.built 62 [(0, .agg (ints .u8 id).toArray), (1, .int .i64 n)] = some (itemC (newItem id n) (.slice none 0 0)).toArray := by
  match id, h with
  | [x0, x1, x2, x3, x4, x5, x6, x7, x8, x9, x10, x11, x12, x13, x14, x15, x16, x17, x18, x19, x20, x21, x22, x23, x24, x25, x26, x27, x28, x29, x30, x31], _ => change _ = _; kernel_rfl
theorem tStore_ne : (59 : TypeId) ≠ 58 := by decide
theorem undItem : ∃ fs, Tryd.prog.underlying 62 = some (.struct fs) := ⟨_, Tryd.underlying62⟩
theorem sizePItem : (Tryd.prog.info? 59).map (·.size) = some 1 := by kernel_rfl
theorem zeroPItem : ((Tryd.prog.info? 59).bind (·.zero)).isSome = true := by kernel_rfl
theorem infoPItem : (Tryd.prog.info? 59).map (fun i => (i.zero.map (·.cells.size), i.size, i.bytes)) = some (some 1, 1, 8) := by kernel_rfl
/-- One blob more in the store. -/
theorem StoreAt.snoc {w w' : World} {F F2 : Nat → Prop} {gs : Nat} {st : StoreD} {v v' : Value} {vs : List Value} {g : Nat} {x : Item} (h : StoreAt w F gs st v vs F2)
    (hb : Blk w' g 62 (itemC x (.slice none 0 0))) (hx : x.id.length = 32) (hxb : x.b = []) (hg : w.heap.size ≤ g) (hv : OwnV w' 0 59 v' (vs ++ [.pointer (some ⟨g, 0, none⟩)])) (hv' : ∀ k, v'.ownBlock = some k → v.ownBlock = some k ∨ g < k) (hs : Blk w' gs 58 [.int .i64 st.quota, .int .i64 st.life, v'])
    (hk : ∀ k, F2 k → w'.heap[k]? = w.heap[k]?) : ∃ F' F2', StoreAt w' F' gs { st with l := st.l ++ [x] } v' (vs ++ [.pointer (some ⟨g, 0, none⟩)]) F2' ∧ Sub F' F w := by
  have hgF : ¬ F2 g := fun hn => by have := h.star.lt g hn; omega
  have hst := Star.snoc (H := itemH) (F1 := fun k => k = g) (h.star.kept hk) ⟨g, .slice none 0 0, rfl, hx, hb, by rw [hxb]; exact Own.nil _ _ _ _, fun k => ⟨fun h => .inl h, fun h => h.resolve_right (by simp [Value.ownBlock])⟩⟩ (fun k hk1 hk2 => hgF (hk2 ▸ hk1))
  have hgs := h.blk.lt
  refine ⟨fun k => k = gs ∨ v'.ownBlock = some k ∨ F2 k ∨ k = g, _, ⟨hs, hv, hst, ⟨fun hn => ?_, fun k hk1 hk2 => ?_⟩, fun k => Iff.rfl⟩, fun k hk1 => ?_⟩
  · rcases hn with hn | hn
    · exact h.apart.1 hn
    · omega
  · rcases hk2 with hk2 | hk2
    · rcases hv' k hk1 with h1 | h1
      · exact h.apart.2 k h1 hk2
      · have := h.star.lt k hk2; omega
    · rcases hv' k hk1 with h1 | h1
      · have := h.own.lt_size k h1; omega
      · omega
  · rcases hk1 with h1 | h1 | h1 | h1
    · exact .inl ((h.foot k).2 (.inl h1))
    · rcases hv' k h1 with h2 | h2
      · exact .inl ((h.foot k).2 (.inr (.inl h2)))
      · exact .inr (by omega)
    · exact .inl ((h.foot k).2 (.inr (.inr h1)))
    · exact .inr (by omega)
set_option maxHeartbeats 1000000 in
set_option maxRecDepth 100000 in
theorem bopen_calls {w : World} {P : Nat → Addr} {B : Nat} {F F2 : Nat → Prop} {gs : Nat} {st : StoreD} {v : Value} {vs : List Value} (id : List Int) (n : Int) (hE : ErrsAt w P B) (hBw : B ≤ w.heap.size) (hF : ∀ k, F k → B ≤ k) (h : StoreAt w F gs st v vs F2) (hG : Good st) (hid' : id.length = 32) :
    Calls Tryd.prog 11 #[.pointer (some ⟨gs, 0, none⟩), .agg (ints .u8 id).toArray, .int .i64 n] w fun e w' => e = .returned (erV P (openE st id n)) ∧ Becomes w F gs w' (openS st id n) := by
  have HI := hid hid'
  have H := hid h
  have HLEN := hid (show st.l.length ≤ 1000000 by have := hG.len; omega)
  clear hid'
  by_cases hr : n < 1 ∨ 30000 < n
  · have hoe : Hd (openE st id n = some 1) := hid (if_pos hr)
    have hos : Hd (openS st id n = st) := hid (if_pos hr)
    rw [hoe.out, hos.out]
    rcases hr with hr | hr
    all_goals
      have hr2 : (30000 < n) ↔ ¬ n < 1 := by omega
      go_enter Tryd.func11, Tryd.ntmps11
      go_wp2_with (first
        | (refine box_blk rfl 30 _ rfl _ rfl (ints .u8 id) rfl ?_; intro gb w1 hgb hbb hB1 hs1
           have e1 := (hE.below (hB1.mono hBw)).errs.cell 1 (by omega)
           simp only [globs, List.getD_cons_zero, List.getD_cons_succ] at e1)
        | fail)
      go_ret
      exact ⟨rfl, .same H.out hB1⟩
  · have h1 : ¬ n < 1 := by omega
    have h2 : ¬ 30000 < n := by omega
    clear hr
    have hr0 : ¬ (n < 1 ∨ 30000 < n) := by omega
    by_cases hk : posOf id st.l < st.l.length
    · have hoe : Hd (openE st id n = some 14) := hid (by unfold openE; rw [if_neg hr0, if_pos hk])
      have hos : Hd (openS st id n = { st with l := touch id st.l }) := hid (by unfold openS; rw [if_neg hr0, if_pos hk])
      rw [hoe.out, hos.out]
      obtain ⟨x, g, vb, hx, hu, _⟩ := h.focus _ hk
      have hr := hid (show vs.getD (posOf id st.l) (.pointer none) = .pointer (some ⟨g, 0, none⟩) by rw [List.getD_eq_getElem?_getD, hu]; rfl)
      clear hk hr0 h hx hu
      go_enter Tryd.func11, Tryd.ntmps11
      go_wp2_with (first
        | (refine box_blk rfl 30 _ rfl _ rfl (ints .u8 id) rfl ?_; intro gb w1 hgb hbb hB1 hs1
           clear hgb hs1)
        | (refine load_blk rfl 30 _ rfl gb rfl 30 _ hbb 32 5 arrHash (by simp [ints, HI.out]) infoHash ?_)
        | (go_at_call 27; refine (named_calls id (H.out.below hB1) HI.out HLEN.out).mono ?_
           rintro e w2 ⟨he, ⟨F', F2', hst, hsub⟩, hup⟩
           rw [hr.out] at he
           subst he
           have hu2 := (Upd.of_below hB1 F).trans hup (fun j _ hj => hj)
           have e14 := (hE.below (hu2.below hBw hF)).errs.cell 14 (by omega)
           simp only [globs, List.getD_cons_zero, List.getD_cons_succ] at e14
           clear hbb)
        | fail)
      go_ret
      refine ⟨rfl, F', v, vs, F2', hst, fun k hk => ?_, hu2⟩
      rcases hsub k hk with h1 | h1
      · exact .inl h1
      · have := hB1.size; exact .inr (by omega)
    · have HT := hid (touch_none (id := id) (l := st.l) hk)
      have hsl := h.star.length
      have hr := hid (show vs.getD (posOf id st.l) (.pointer none) = .pointer none by rw [List.getD_eq_getElem?_getD, List.getElem?_eq_none (by omega)]; rfl)
      obtain ⟨A, c, hv, hc, _, _⟩ := h.own.parts
      rw [hsl] at hv hc
      obtain ⟨m, hm⟩ : ∃ m, Hd (st.l.length = m) := ⟨_, ⟨rfl⟩⟩
      rw [hm.out] at hv hc
      subst hv
      have HSL := hid hsl
      have hm16 : m ≤ 16 := by rw [← hm.out]; exact hG.len
      have HG := hid hG
      have HK := hid hk
      clear hk h hsl hG
      by_cases hm17 : 16 ≤ m
      · have hoe : Hd (openE st id n = some 17) := hid (by unfold openE; rw [if_neg hr0, if_neg HK.out, hm.out, if_pos hm17])
        have hos : Hd (openS st id n = st) := hid (by unfold openS; rw [if_neg hr0, if_neg HK.out, hm.out, if_pos hm17])
        rw [hoe.out, hos.out]
        clear hr0
        have hm18 : 16 ≤ (m : Int) := by omega
        go_enter Tryd.func11, Tryd.ntmps11
        go_wp2_with (first
          | (refine box_blk rfl 30 _ rfl _ rfl (ints .u8 id) rfl ?_; intro gb w1 hgb hbb hB1 hs1
             clear hs1)
          | (refine load_blk rfl 30 _ rfl gb rfl 30 _ hbb 32 5 arrHash (by simp [ints, HI.out]) infoHash ?_)
          | (go_at_call 27; refine (named_calls id (H.out.below hB1) HI.out HLEN.out).mono ?_
             rintro e w2 ⟨he, ⟨F', F2', hst, hsub⟩, hup⟩
             rw [hr.out] at he
             subst he
             rw [HT.out] at hst
             have hu2 := (Upd.of_below hB1 F).trans hup (fun j _ hj => hj)
             have hsub2 : Sub F' F w := fun k hk => (hsub k hk).imp (fun h => h) (fun h => by have := hB1.size; omega)
             have e17 := (hE.below (hu2.below hBw hF)).errs.cell 17 (by omega)
             have e6 := (hE.below (hu2.below hBw hF)).errs.cell 6 (by omega)
             simp only [globs, List.getD_cons_zero, List.getD_cons_succ] at e17 e6
             replace hbb := hbb.upd hup (fun hf => by have := H.out.lt _ hf; omega)
             have c2 : w2.cell? ⟨gs, 2, none⟩ = some (.slice A m c) := by rw [hst.blk.cell]; rfl
             have c0 : w2.cell? ⟨gs, 0, none⟩ = some (.int .i64 st.quota) := by rw [hst.blk.cell]; rfl)
          | fail)
        go_ret
        exact ⟨rfl, F', _, vs, F2', hst, hsub2, hu2⟩
      · have hm18 : ¬ 16 ≤ (m : Int) := by omega
        obtain ⟨U, hU⟩ : ∃ U, Hd (used st.l = U) := ⟨_, ⟨rfl⟩⟩
        have hub : 0 ≤ U ∧ U ≤ 480000 := by
          have := used_bound_take HG.out st.l.length
          rw [List.take_length, hU.out] at this; exact this
        by_cases hq : st.quota - U < n
        · have hoe : Hd (openE st id n = some 6) := hid (by unfold openE; rw [if_neg hr0, if_neg HK.out, hm.out, if_neg hm17, hU.out, if_pos hq])
          have hos : Hd (openS st id n = st) := hid (by unfold openS; rw [if_neg hr0, if_neg HK.out, hm.out, if_neg hm17, hU.out, if_pos hq])
          rw [hoe.out, hos.out]
          clear hr0
          go_enter Tryd.func11, Tryd.ntmps11
          go_wp2_with (first
            | (refine box_blk rfl 30 _ rfl _ rfl (ints .u8 id) rfl ?_; intro gb w1 hgb hbb hB1 hs1
               clear hs1)
            | (refine load_blk rfl 30 _ rfl gb rfl 30 _ hbb 32 5 arrHash (by simp [ints, HI.out]) infoHash ?_)
            | (go_at_call 27; refine (named_calls id (H.out.below hB1) HI.out HLEN.out).mono ?_
               rintro e w2 ⟨he, ⟨F', F2', hst, hsub⟩, hup⟩
               rw [hr.out] at he
               subst he
               rw [HT.out] at hst
               have hu2 := (Upd.of_below hB1 F).trans hup (fun j _ hj => hj)
               have hsub2 : Sub F' F w := fun k hk => (hsub k hk).imp (fun h => h) (fun h => by have := hB1.size; omega)
               have e17 := (hE.below (hu2.below hBw hF)).errs.cell 17 (by omega)
               have e6 := (hE.below (hu2.below hBw hF)).errs.cell 6 (by omega)
               simp only [globs, List.getD_cons_zero, List.getD_cons_succ] at e17 e6
               replace hbb := hbb.upd hup (fun hf => by have := H.out.lt _ hf; omega)
               have c2 : w2.cell? ⟨gs, 2, none⟩ = some (.slice A m c) := by rw [hst.blk.cell]; rfl
               have c0 : w2.cell? ⟨gs, 0, none⟩ = some (.int .i64 st.quota) := by rw [hst.blk.cell]; rfl)
            | fail)
          have hT := below_drewN (Below.refl w2.heap.size w2) 1
          refine wp_region_T (T := fun w' => Below w2.heap.size w2 w') (by kernel_rfl) (by kernel_rfl) hT ?_
          show wpT _ _ _ _ [0, 1, 2, 3, 4, 5, 6, 7, 8, 9] _ _
          apply wpT_read (i := 0) rfl hT rfl -- Op.move t2
          · intro w' hT'
            simp only [List.getElem_toArray, List.getElem_cons_zero, List.getElem_cons_succ]
            go_wp2_with fail
            first | exact ⟨rfl, rfl, rfl⟩ | rfl
          apply wpT_read (i := 1) rfl hT rfl -- Op.move t0
          · intro w' hT'
            simp only [List.getElem_toArray, List.getElem_cons_zero, List.getElem_cons_succ]
            go_wp2_with fail
            first | exact ⟨rfl, rfl, rfl⟩ | rfl
          apply wpT_read (i := 2) rfl hT rfl -- Op.nilCheck t31
          · intro w' hT'
            simp only [List.getElem_toArray, List.getElem_cons_zero, List.getElem_cons_succ]
            go_wp2_with fail
            first | exact ⟨rfl, rfl, rfl⟩ | rfl
          apply wpT_read (i := 3) rfl hT rfl -- Op.fieldAddr 58 t32 0
          · intro w' hT'
            simp only [List.getElem_toArray, List.getElem_cons_zero, List.getElem_cons_succ]
            go_wp2_with fail
            first | exact ⟨rfl, rfl, rfl⟩ | rfl
          apply wpT_read (i := 4) rfl hT rfl -- Op.load 3 t33
          · intro w' hT'
            simp only [List.getElem_toArray, List.getElem_cons_zero, List.getElem_cons_succ]
            have c0' := (hT'.cell (lt_of_cell c0)).trans c0
            go_wp2_with fail
            first | exact ⟨rfl, rfl, rfl⟩ | rfl
          apply wpT_read (i := 5) rfl hT rfl -- Op.move t0
          · intro w' hT'
            simp only [List.getElem_toArray, List.getElem_cons_zero, List.getElem_cons_succ]
            go_wp2_with fail
            first | exact ⟨rfl, rfl, rfl⟩ | rfl
          refine wpT_act (i := 6) rfl rfl ?_ -- Op.call { value (Operand.func 14), args := #[t35], argTypes := #[24]
          simp only [List.getElem_toArray, List.getElem_cons_zero, List.getElem_cons_succ]
          go_wp2_with (first
            | (go_at_call 14; refine (bused_calls hst.drew HG.out).mono ?_; rintro e w3 ⟨rfl, q3, hw3⟩; rw [hU.out]; have hT3 : Below w2.heap.size w2 w3 := hw3 ▸ below_drewN (below_drewN (Below.refl w2.heap.size w2) 1) q3; clear hw3)
            | fail)
          have hT := hT3
          have ha : IntKind.i64.wrap (st.quota - U) = st.quota - U := IntWalk.i64_in _ (by have := HG.out.q; omega)
          first | refine ⟨rfl, rfl, hT, ?_⟩ | (show _ ∧ _; refine ⟨hT, ?_⟩) | skip
          apply wpT_read (i := 7) rfl hT rfl -- Op.binOp BinOp.sub 3 t34 t36 3
          · intro w' hT'
            simp only [List.getElem_toArray, List.getElem_cons_zero, List.getElem_cons_succ]
            go_wp2_with fail
            first | exact ⟨rfl, rfl, rfl⟩ | rfl
          apply wpT_read (i := 8) rfl hT rfl -- Op.binOp BinOp.gtr 3 t30 t37 3
          · intro w' hT'
            simp only [List.getElem_toArray, List.getElem_cons_zero, List.getElem_cons_succ]
            go_wp2_with fail
            first | exact ⟨rfl, rfl, rfl⟩ | rfl
          apply wpT_read (i := 9) rfl hT rfl -- Op.assign t38
          · intro w' hT'
            simp only [List.getElem_toArray, List.getElem_cons_zero, List.getElem_cons_succ]
            go_wp2_with fail
            first | exact ⟨rfl, rfl, rfl⟩ | rfl
          refine wpT_end ?_
          try dsimp only

          replace e6 := (hT.cell (lt_of_cell e6)).trans e6
          go_wp2_with fail
          go_ret
          exact ⟨rfl, F', _, vs, F2', hst.below hT, hsub2, hu2.trans (Upd.of_below hT F) (fun j _ hj => hj)⟩
        · have hoe : Hd (openE st id n = none) := hid (by unfold openE; rw [if_neg hr0, if_neg HK.out, hm.out, if_neg hm17, hU.out, if_neg hq])
          have hos : Hd (openS st id n = { st with l := st.l ++ [newItem id n] }) := hid (by unfold openS; rw [if_neg hr0, if_neg HK.out, hm.out, if_neg hm17, hU.out, if_neg hq])
          rw [hoe.out, hos.out]
          clear hr0
          go_enter Tryd.func11, Tryd.ntmps11
          go_wp2_with (first
            | (refine box_blk rfl 30 _ rfl _ rfl (ints .u8 id) rfl ?_; intro gb w1 hgb hbb hB1 hs1
               clear hs1)
            | (refine load_blk rfl 30 _ rfl gb rfl 30 _ hbb 32 5 arrHash (by simp [ints, HI.out]) infoHash ?_)
            | (go_at_call 27; refine (named_calls id (H.out.below hB1) HI.out HLEN.out).mono ?_
               rintro e w2 ⟨he, ⟨F', F2', hst, hsub⟩, hup⟩
               rw [hr.out] at he
               subst he
               rw [HT.out] at hst
               have hu2 := (Upd.of_below hB1 F).trans hup (fun j _ hj => hj)
               have hsub2 : Sub F' F w := fun k hk => (hsub k hk).imp (fun h => h) (fun h => by have := hB1.size; omega)
               have e17 := (hE.below (hu2.below hBw hF)).errs.cell 17 (by omega)
               have e6 := (hE.below (hu2.below hBw hF)).errs.cell 6 (by omega)
               simp only [globs, List.getD_cons_zero, List.getD_cons_succ] at e17 e6
               replace hbb := hbb.upd hup (fun hf => by have := H.out.lt _ hf; omega)
               have c2 : w2.cell? ⟨gs, 2, none⟩ = some (.slice A m c) := by rw [hst.blk.cell]; rfl
               have c0 : w2.cell? ⟨gs, 0, none⟩ = some (.int .i64 st.quota) := by rw [hst.blk.cell]; rfl)
            | fail)
          have hT := below_drewN (Below.refl w2.heap.size w2) 1
          refine wp_region_T (T := fun w' => Below w2.heap.size w2 w') (by kernel_rfl) (by kernel_rfl) hT ?_
          show wpT _ _ _ _ [0, 1, 2, 3, 4, 5, 6, 7, 8, 9] _ _
          apply wpT_read (i := 0) rfl hT rfl -- Op.move t2
          · intro w' hT'
            simp only [List.getElem_toArray, List.getElem_cons_zero, List.getElem_cons_succ]
            go_wp2_with fail
            first | exact ⟨rfl, rfl, rfl⟩ | rfl
          apply wpT_read (i := 1) rfl hT rfl -- Op.move t0
          · intro w' hT'
            simp only [List.getElem_toArray, List.getElem_cons_zero, List.getElem_cons_succ]
            go_wp2_with fail
            first | exact ⟨rfl, rfl, rfl⟩ | rfl
          apply wpT_read (i := 2) rfl hT rfl -- Op.nilCheck t31
          · intro w' hT'
            simp only [List.getElem_toArray, List.getElem_cons_zero, List.getElem_cons_succ]
            go_wp2_with fail
            first | exact ⟨rfl, rfl, rfl⟩ | rfl
          apply wpT_read (i := 3) rfl hT rfl -- Op.fieldAddr 58 t32 0
          · intro w' hT'
            simp only [List.getElem_toArray, List.getElem_cons_zero, List.getElem_cons_succ]
            go_wp2_with fail
            first | exact ⟨rfl, rfl, rfl⟩ | rfl
          apply wpT_read (i := 4) rfl hT rfl -- Op.load 3 t33
          · intro w' hT'
            simp only [List.getElem_toArray, List.getElem_cons_zero, List.getElem_cons_succ]
            have c0' := (hT'.cell (lt_of_cell c0)).trans c0
            go_wp2_with fail
            first | exact ⟨rfl, rfl, rfl⟩ | rfl
          apply wpT_read (i := 5) rfl hT rfl -- Op.move t0
          · intro w' hT'
            simp only [List.getElem_toArray, List.getElem_cons_zero, List.getElem_cons_succ]
            go_wp2_with fail
            first | exact ⟨rfl, rfl, rfl⟩ | rfl
          refine wpT_act (i := 6) rfl rfl ?_ -- Op.call { value (Operand.func 14), args := #[t35], argTypes := #[24]
          simp only [List.getElem_toArray, List.getElem_cons_zero, List.getElem_cons_succ]
          go_wp2_with (first
            | (go_at_call 14; refine (bused_calls hst.drew HG.out).mono ?_; rintro e w3 ⟨rfl, q3, hw3⟩; rw [hU.out]; have hT3 : Below w2.heap.size w2 w3 := hw3 ▸ below_drewN (below_drewN (Below.refl w2.heap.size w2) 1) q3; clear hw3)
            | fail)
          have hT := hT3
          have ha : IntKind.i64.wrap (st.quota - U) = st.quota - U := IntWalk.i64_in _ (by have := HG.out.q; omega)
          first | refine ⟨rfl, rfl, hT, ?_⟩ | (show _ ∧ _; refine ⟨hT, ?_⟩) | skip
          apply wpT_read (i := 7) rfl hT rfl -- Op.binOp BinOp.sub 3 t34 t36 3
          · intro w' hT'
            simp only [List.getElem_toArray, List.getElem_cons_zero, List.getElem_cons_succ]
            go_wp2_with fail
            first | exact ⟨rfl, rfl, rfl⟩ | rfl
          apply wpT_read (i := 8) rfl hT rfl -- Op.binOp BinOp.gtr 3 t30 t37 3
          · intro w' hT'
            simp only [List.getElem_toArray, List.getElem_cons_zero, List.getElem_cons_succ]
            go_wp2_with fail
            first | exact ⟨rfl, rfl, rfl⟩ | rfl
          apply wpT_read (i := 9) rfl hT rfl -- Op.assign t38
          · intro w' hT'
            simp only [List.getElem_toArray, List.getElem_cons_zero, List.getElem_cons_succ]
            go_wp2_with fail
            first | exact ⟨rfl, rfl, rfl⟩ | rfl
          refine wpT_end ?_
          try dsimp only

          go_wp2_with fail
          have hst3 := hst.below hT
          have hu3 := hu2.trans (Upd.of_below hT F) (fun j _ hj => hj)
          have hb3 := hbb.belowAll hT
          have c23 : w3.cell? ⟨gs, 2, none⟩ = some (.slice A m c) := (hT.cell (lt_of_cell c2)).trans c2
          clear hT hu2 hst hbb c2 c0 e6 e17
          have hT := (⟨hb3.drew, c23⟩ : Blk w3.drew gb 30 (ints .u8 id) ∧ w3.drew.cell? ⟨gs, 2, none⟩ = some (.slice A m c))
          refine wp_region_T (T := fun w' => Blk w' gb 30 (ints .u8 id) ∧ w'.cell? ⟨gs, 2, none⟩ = some (.slice A m c)) (by kernel_rfl) (by kernel_rfl) hT ?_
          show wpT _ _ _ _ [0, 1, 2, 3, 4, 5, 6, 7, 8, 9, 10, 11, 12, 13] _ _
          apply wpT_read (i := 0) rfl hT rfl -- Op.move t0
          · intro w' hT'
            simp only [List.getElem_toArray, List.getElem_cons_zero, List.getElem_cons_succ]
            go_wp2_with fail
            first | exact ⟨rfl, rfl, rfl⟩ | rfl
          apply wpT_read (i := 1) rfl hT rfl -- Op.move t0
          · intro w' hT'
            simp only [List.getElem_toArray, List.getElem_cons_zero, List.getElem_cons_succ]
            go_wp2_with fail
            first | exact ⟨rfl, rfl, rfl⟩ | rfl
          apply wpT_read (i := 2) rfl hT rfl -- Op.nilCheck t41
          · intro w' hT'
            simp only [List.getElem_toArray, List.getElem_cons_zero, List.getElem_cons_succ]
            go_wp2_with fail
            first | exact ⟨rfl, rfl, rfl⟩ | rfl
          apply wpT_read (i := 3) rfl hT rfl -- Op.fieldAddr 58 t42 2
          · intro w' hT'
            simp only [List.getElem_toArray, List.getElem_cons_zero, List.getElem_cons_succ]
            go_wp2_with fail
            first | exact ⟨rfl, rfl, rfl⟩ | rfl
          apply wpT_read (i := 4) rfl hT rfl -- Op.load 56 t43
          · intro w' hT'
            simp only [List.getElem_toArray, List.getElem_cons_zero, List.getElem_cons_succ]
            have c23' := hT'.2
            go_wp2_with (first
              | (refine load_blk rfl 30 _ rfl gb rfl 30 _ hT'.1 32 5 arrHash (by simp [ints, HI.out]) infoHash ?_)
              | (refine build_to rfl 62 _ rfl (itemC (newItem id n) (.slice none 0 0)).toArray (by rw [Array.toList_map]; exact builtItem id n HI.out) ?_)
              | fail)
            first | exact ⟨rfl, rfl, rfl⟩ | rfl
          apply wpT_read (i := 5) rfl hT rfl -- Op.load 30 t4
          · intro w' hT'
            simp only [List.getElem_toArray, List.getElem_cons_zero, List.getElem_cons_succ]
            have c23' := hT'.2
            go_wp2_with (first
              | (refine load_blk rfl 30 _ rfl gb rfl 30 _ hT'.1 32 5 arrHash (by simp [ints, HI.out]) infoHash ?_)
              | (refine build_to rfl 62 _ rfl (itemC (newItem id n) (.slice none 0 0)).toArray (by rw [Array.toList_map]; exact builtItem id n HI.out) ?_)
              | fail)
            first | exact ⟨rfl, rfl, rfl⟩ | rfl
          apply wpT_read (i := 6) rfl hT rfl -- Op.move t2
          · intro w' hT'
            simp only [List.getElem_toArray, List.getElem_cons_zero, List.getElem_cons_succ]
            go_wp2_with fail
            first | exact ⟨rfl, rfl, rfl⟩ | rfl
          apply wpT_read (i := 7) rfl hT rfl -- Op.build 62 #[(0, t45), (1, t46)]
          · intro w' hT'
            simp only [List.getElem_toArray, List.getElem_cons_zero, List.getElem_cons_succ]
            go_wp2_with (first
              | (refine load_blk rfl 30 _ rfl gb rfl 30 _ hT'.1 32 5 arrHash (by simp [ints, HI.out]) infoHash ?_)
              | (refine build_to rfl 62 _ rfl (itemC (newItem id n) (.slice none 0 0)).toArray (by rw [Array.toList_map]; exact builtItem id n HI.out) ?_)
              | fail)
            first | exact ⟨rfl, rfl, rfl⟩ | rfl
          refine wpT_act (i := 8) rfl rfl ?_ -- Op.box 62 t47
          simp only [List.getElem_toArray, List.getElem_cons_zero, List.getElem_cons_succ]
          go_wp2_with (first
            | (refine box_blk rfl 62 _ rfl _ rfl (itemC (newItem id n) (.slice none 0 0)) rfl ?_; intro g4 w4 hg4 hb4 hB4 hs4)
            | fail)
          have hT := (⟨hT.1.belowAll hB4, (hB4.cell (lt_of_cell hT.2)).trans hT.2⟩ : Blk w4 gb 30 (ints .u8 id) ∧ w4.cell? ⟨gs, 2, none⟩ = some (.slice A m c))
          first | refine ⟨rfl, rfl, hT, ?_⟩ | (show _ ∧ _; refine ⟨hT, ?_⟩) | skip
          refine wpT_act (i := 9) rfl rfl ?_ -- Op.buildSlice 56 1 #[(0, t48)]
          simp only [List.getElem_toArray, List.getElem_cons_zero, List.getElem_cons_succ]
          go_wp2_with fail
          obtain ⟨w5, hw5⟩ : ∃ w5, w5 = w4.alloc (.cells #[.pointer (some ⟨g4, 0, none⟩)] 59) := ⟨_, rfl⟩
          have hb5 : Blk w5 w4.heap.size 59 [.pointer (some ⟨g4, 0, none⟩)] := hw5 ▸ Blk.new w4 _ _
          have hB5 : Below w4.heap.size w4 w5 := hw5 ▸ (Below.refl _ _).alloc (Nat.le_refl _) _
          try rw [← hw5]
          rw [hs4] at hb5
          have hT := (⟨hT.1.belowAll hB5, (hB5.cell (lt_of_cell hT.2)).trans hT.2⟩ : Blk w5 gb 30 (ints .u8 id) ∧ w5.cell? ⟨gs, 2, none⟩ = some (.slice A m c))
          have hB35 : Below w3.heap.size w3 w5 := below_then (below_drewN (Below.refl w3.heap.size w3) 1) (Nat.le_refl _) (below_then hB4 hB4.size hB5)
          have hst5 := hst3.below hB35
          have hb45 := hb4.belowAll hB5
          have hz4 : w3.heap.size ≤ g4 := by rw [← hg4]; exact Nat.le_refl _
          have hz5 : g4 < w5.heap.size := hb45.lt
          clear hw5
          first | refine ⟨rfl, rfl, hT, ?_⟩ | (show _ ∧ _; refine ⟨hT, ?_⟩) | skip
          refine wpT_act (i := 10) rfl rfl ?_ -- Op.call { builtin append, args := #[t44, t49], argTypes := #[56, 56]
          simp only [List.getElem_toArray, List.getElem_cons_zero, List.getElem_cons_succ]
          go_wp2_with (first
            | (at_builtin; refine app_val rfl (.tmp 44) (.tmp 49) 56 rfl 59 8 undFn infoPItem (.slice A m c) vs rfl hst5.own (g4 + 1) (.pointer (some ⟨g4, 0, none⟩)) rfl hb5 rfl (by have := HSL.out; have := hm.out; omega) (by have := HSL.out; have := hm.out; omega) ?_; intro v6 w6 hv6 hg6 hl6)
            | fail)
          have hne6 := hst5.own.ne_blk hst5.blk tStore_ne
          have hT := (⟨hT.1.grown hg6 (hst5.own.ne_blk hT.1 (by decide)), hg6.cell hT.2 hne6⟩ : Blk w6 gb 30 (ints .u8 id) ∧ w6.cell? ⟨gs, 2, none⟩ = some (.slice A m c))
          have hs6 := hst5.blk.grown hg6 hne6
          have hb46 := hb45.grown hg6 (hst5.own.ne_blk hb45 (by decide))
          have hu56 := Upd.of_grown hg6
          have c26 := hT.2
          have f26 := hs6.frozen 2
          obtain ⟨A6, c6, hv6e, _, _, _⟩ := hv6.parts
          obtain ⟨n6, hn6⟩ : ∃ n6, (vs ++ [Value.pointer (some ⟨g4, 0, none⟩)]).length = n6 := ⟨_, rfl⟩
          rw [hn6] at hv6e
          subst hv6e
          first | refine ⟨rfl, rfl, hT, ?_⟩ | (show _ ∧ _; refine ⟨hT, ?_⟩) | skip
          apply wpT_read (i := 11) rfl hT rfl -- Op.nilCheck t40
          · intro w' hT'
            simp only [List.getElem_toArray, List.getElem_cons_zero, List.getElem_cons_succ]
            go_wp2_with fail
            first | exact ⟨rfl, rfl, rfl⟩ | rfl
          apply wpT_read (i := 12) rfl hT rfl -- Op.fieldAddr 58 t51 2
          · intro w' hT'
            simp only [List.getElem_toArray, List.getElem_cons_zero, List.getElem_cons_succ]
            go_wp2_with fail
            first | exact ⟨rfl, rfl, rfl⟩ | rfl
          refine wpT_tot (fun w' => True) (i := 13) rfl rfl (by kernel_rfl) ?_ -- Op.store 56 t52 t50
          simp only [List.getElem_toArray, List.getElem_cons_zero, List.getElem_cons_succ]
          go_wp2_with fail
          have hT : True := trivial
          first | refine ⟨rfl, rfl, hT, ?_⟩ | (show _ ∧ _; refine ⟨hT, ?_⟩) | skip
          refine wpT_end ?_
          try dsimp only

          go_wp2_with fail
          go_ret
          have hw35 := hB35.size
          obtain ⟨F9, F29, hst9, hsub9⟩ := hst3.snoc (w' := w6.setCell ⟨gs, 2, none⟩ (.slice A6 n6 c6)) (v' := .slice A6 n6 c6) (x := newItem id n) (g := g4) (hb46.setOther (by simp; exact fun he => by have := hst3.blk.lt; omega) _) HI.out rfl hz4 (hv6.kept' fun j hj => Below.heap_setCell _ _ _ _ (fun he => hv6.ne_blk hs6 tStore_ne (by rw [hj, he]))) (fun k hk => by
              rcases hl6 with h1 | h1
              · exact .inl (h1 ▸ hk)
              · rw [h1] at hk; injection hk with hk; exact .inr (by omega)) (by have := hs6.set 2 (.slice A6 n6 c6); exact this) (fun k hk => by
              have hk3 := hst3.star.lt k hk
              have hkg : k ≠ gs := fun he => hst3.apart.1 (he ▸ hk)
              exact (Below.heap_setCell _ _ _ _ hkg).trans ((hg6.block k (by omega) (fun he => hst3.apart.2 k he.symm hk)).trans (hB35.block k hk3)))
          have hu36 : Upd F' w3 (w6.setCell ⟨gs, 2, none⟩ (.slice A6 n6 c6)) := ((Upd.of_below hB35 F').trans hu56 (fun j _ hj => (hst3.foot j).2 (.inr (.inl hj)))).trans (Upd.setCell _ _ _) (fun j _ he => (hst3.foot j).2 (.inl he))
          exact ⟨rfl, F9, _, _, F29, hst9, hsub2.trans hsub9 hu3.size, hu3.trans hu36 (fun j hj hf => (hsub2 j hf).resolve_right (by omega))⟩
end Go.Proofs.YtinpilfnnmkpoaaDoor
/- File, Clone: bytes made of a number; a copy. -/
namespace Go.Proofs.YtinpilfnnmkpoaaDoor
open Go.RowKit Go.Cour
/-- A byte list holds bytes. -/
def bytesOk (xs : List Int) : Prop := ∀ i, 0 ≤ rd xs i ∧ rd xs i < 256
theorem rd_append (xs : List Int) (y : Int) (i : Nat) : rd (xs ++ [y]) i = if i < xs.length then rd xs i else if i = xs.length then y else 0 := by
  unfold rd
  rw [List.getD_eq_getElem?_getD, List.getElem?_append]
  split
  · rw [List.getD_eq_getElem?_getD]
  · by_cases h : i = xs.length
    · simp [h]
    · rw [if_neg h, List.getElem?_eq_none (by simp; omega)]; rfl
theorem bytesOk_snoc {xs : List Int} (h : bytesOk xs) {y : Int} (h0 : 0 ≤ y) (h1 : y < 256) : bytesOk (xs ++ [y]) := by
  intro i
  rw [rd_append]
  split
  · exact h i
  · split <;> omega
theorem infoU8 : (Tryd.prog.info? 5).map (fun i => (i.zero, i.size, i.bytes)) = some (some (.int .u8 0), 1, 1) := by kernel_rfl
theorem undBytes : Tryd.prog.underlying 41 = some (.slice 5) := by kernel_rfl
def fileByte (n : Int) (i : Nat) : Int := wrap64 (wrap64 (n + i * 7) + i / 13) % 256
def fileTo (n : Int) (i : Nat) : List Int := (List.range i).map (fileByte n)
theorem fileTo_succ (n : Int) (i : Nat) : fileTo n (i + 1) = fileTo n i ++ [fileByte n i] := by simp [fileTo, List.range_succ]
theorem fileTo_length (n : Int) (i : Nat) : (fileTo n i).length = i := by simp [fileTo]
theorem fileTo_ok (n : Int) : ∀ i, bytesOk (fileTo n i)
  | 0 => fun j => by simp [fileTo, rd]
  | i + 1 => by rw [fileTo_succ]; exact bytesOk_snoc (fileTo_ok n i) (Int.emod_nonneg _ (by decide)) (Int.emod_lt_of_pos _ (by decide))
set_option maxHeartbeats 2000000 in
set_option maxRecDepth 100000 in
theorem file_calls (n : Int) (size : Nat) (w : World) (hs : size ≤ 1000000) :
    Calls Tryd.prog 32 #[.int .i64 n, .int .i64 size] w fun e w' => ∃ v, e = .returned v ∧ Own w' w.heap.size 5 .u8 v (fileTo n size) ∧ Below w.heap.size w w' := by
  go_enter Tryd.func32, Tryd.ntmps32
  go_wp2
  go_loopg [5, 6] (size + 1) (fun kq v5 v6 wr => ∃ i : Nat, i ≤ size ∧ v6 = .int .i64 i ∧ Hd (kq + i = size + 1) ∧ Own wr w.heap.size 5 .u8 v5 (fileTo n i) ∧ Below w.heap.size w wr)
  case atStart => exact ⟨0, by omega, rfl, hid (by omega), Own.nil _ _ _ _, Below.refl _ _⟩
  case round =>
    obtain ⟨i, hi, rfl, hq, ho, hb⟩ := hrel
    by_cases hlt : i < size
    · have hl := fileTo_length n i
      have HL := hid hl
      clear hl
      have hz := hb.size
      go_wp2_with (at_builtin; refine append_one rfl (.tmp 12) (.tmp 21) 41 rfl w.heap.size 5 .u8 1 undBytes infoU8 _ (fileTo n i) rfl ho _ rfl (by rw [HL.out]; omega) (by rw [HL.out]; omega) hz ?_; intro v' w1 ho' hg')
      go_roundg (gk - 1)
      case measure => have := hq.out; omega
      case rel => exact ⟨i + 1, by omega, by go_num, hid (by have := hq.out; omega), by rw [fileTo_succ]; exact ho', ho.grown_below hb hg' hz (Nat.le_refl _)⟩
    · obtain rfl : i = size := by omega
      go_wp2
      go_ret
      exact ⟨_, rfl, ho, hb⟩
set_option maxHeartbeats 2000000 in
set_option maxRecDepth 100000 in
theorem clone_calls (A : Option Addr) (m c : Nat) (xs : List Int) (w : World) (hm : m = xs.length) (hA : A = none → c = 0) (hr : Rd w A .u8 xs) (hl : xs.length ≤ 1000000000) :
    Calls Tryd.prog 33 #[.slice A m c] w fun e w' => ∃ v, e = .returned v ∧ Own w' w.heap.size 5 .u8 v xs ∧ Below w.heap.size w w' := by
  subst hm
  cases A with
  | none =>
    obtain rfl := hA rfl
    have hx : xs = [] := by
      rcases hr with hr | ⟨g, o, he, _⟩
      · exact hr
      · cases he
    subst hx
    have he := fun w => Lib.run_eql_slice_nil (P := Tryd.prog) w 41 5 none 0 0 0 0 undBytes
    go_enter Tryd.func33, Tryd.ntmps33
    go_wp2
    go_ret
    exact ⟨_, rfl, Own.nil _ _ _ _, Below.refl _ _⟩
  | some ad =>
    have HR := hid hr
    clear hr hA
    have he := fun w => Lib.run_eql_slice_nil (P := Tryd.prog) w 41 5 (some ad) xs.length c 0 0 undBytes
    go_enter Tryd.func33, Tryd.ntmps33
    have ho : Own (w.alloc (.cells (ints .u8 []).toArray 5)) w.heap.size 5 .u8 (.slice (some ⟨w.heap.size, 0, none⟩) ([] : List Int).length ([] : List Int).length) [] := Own.ofBlk (Blk.new w 5 (ints .u8 [])) (Nat.le_refl _) (by simp)
    go_wp2_with (at_builtin; refine append_list rfl (.tmp 5) (.tmp 6) 41 rfl w.heap.size 5 .u8 1 undBytes infoU8 _ [] rfl ho (some ad) xs.length c xs rfl rfl (by simp) (HR.out.alloc _) (by simp; omega) (by simp; omega) (by simp) ?_; intro v' w1 ho' hg')
    go_ret
    exact ⟨_, rfl, ho', ho.grown_below ((Below.refl _ _).alloc (Nat.le_refl _) _) hg' (by simp) (Nat.le_refl _)⟩
end Go.Proofs.YtinpilfnnmkpoaaDoor
/- The store's Get. -/
namespace Go.Proofs.YtinpilfnnmkpoaaDoor
open Go.RowKit Go.Cour
/-- Two results, each in a slot. -/
theorem results_tmp2 {P : Program} {fn : Func} {p q : Tmp} (h : fn.results = #[.tmp p, .tmp q]) (tmps : Array Value) (w : World) {u v : Value} (hp : tmps.getD p undef = u) (hq : tmps.getD q undef = v) :
    (results fn tmps).run P w = .ok (.tuple #[u, v]) w := by
  have hp' : tmps[p]?.getD undef = u := by simpa using hp
  have hq' : tmps[q]?.getD undef = v := by simpa using hq
  simp [results, h, hp', hq']
theorem rd_slice {w : World} {A : Option Addr} {k : IntKind} {xs : List Int} (h : Rd w A k xs) (f : Nat) : Rd w (A.map (·.add f)) k (xs.drop f) := by
  rcases h with h | ⟨g, o, rfl, h⟩
  · exact .inl (by rw [h]; simp)
  · refine .inr ⟨g, o + f, by rw [Option.map_some, add_lit], fun i hi => ?_⟩
    rw [rd_drop, Nat.add_assoc]
    exact h _ (by rw [List.length_drop] at hi; omega)
def getOf (id : List Int) (off n : Int) (l : List Item) : List Int × Option Nat := match l[posOf id l]? with
  | none => ([], some 13)
  | some x => if x.done = false then ([], some 16) else if n < 0 ∨ 200 < n ∨ off < 0 ∨ (x.b.length : Int) < off ∨ (x.b.length : Int) - off < n then ([], some 1) else ((x.b.drop off.toNat).take n.toNat, none)
/-- The bytes of an answer: one's own, or none. -/
def GotV (w : World) (B : Nat) (r : List Int × Option Nat) (v : Value) : Prop := Own w B 5 .u8 v r.1
set_option maxHeartbeats 1000000 in
set_option maxRecDepth 100000 in
theorem get2_calls {w : World} {P : Nat → Addr} {B : Nat} {F F2 : Nat → Prop} {gs : Nat} {st : StoreD} {v : Value} {vs : List Value} (id : List Int) (off n : Int) (hE : ErrsAt w P B) (hBw : B ≤ w.heap.size) (hF : ∀ k, F k → B ≤ k) (h : StoreAt w F gs st v vs F2) (hid' : id.length = 32) (hlen : st.l.length ≤ 1000000) (hbl : ∀ x ∈ st.l, x.b.length ≤ 1000000)
    (ho : -9223372036854775808 ≤ off ∧ off < 9223372036854775808) (hn : -9223372036854775808 ≤ n ∧ n < 9223372036854775808) :
    Calls Tryd.prog 20 #[.pointer (some ⟨gs, 0, none⟩), .agg (ints .u8 id).toArray, .int .i64 off, .int .i64 n] w fun e w' => ∃ u F' v' vs' F2', e = .returned (.tuple #[u, erV P (getOf id off n st.l).2]) ∧ Own w' w.heap.size 5 .u8 u (getOf id off n st.l).1 ∧ StoreAt w' F' gs { st with l := touch id st.l } v' vs' F2' ∧ Sub F' F w ∧ Upd F w w' ∧ ∀ k, u.ownBlock = some k → ¬ F' k := by
  have HI := hid hid'
  have H := hid h
  have HLEN := hid hlen
  clear hid' hlen
  by_cases hk : posOf id st.l < st.l.length
  · obtain ⟨x, g, vb, hx, hu, hxl, hb, ho', hFg, hFb, hgs, hvg, hvb, hback⟩ := h.focus _ hk
    have hbl1 := hbl x (List.mem_of_getElem? hx)
    have hr := hid (show vs.getD (posOf id st.l) (.pointer none) = .pointer (some ⟨g, 0, none⟩) by rw [List.getD_eq_getElem?_getD, hu]; rfl)
    have hgo : Hd (getOf id off n st.l = if x.done = false then ([], some 16) else if n < 0 ∨ 200 < n ∨ off < 0 ∨ (x.b.length : Int) < off ∨ (x.b.length : Int) - off < n then ([], some 1) else ((x.b.drop off.toNat).take n.toNat, none)) := hid (by unfold getOf; rw [hx])
    rw [hgo.out]
    have HT := hid (touch_some hx)
    have HK := hid hk
    have HU := hid hu
    have HB := hid hb
    have HO := hid ho'
    clear hback ho' hgs hvg hvb hFg hFb hk h hb hgo hx hu
    obtain ⟨bs, hbs⟩ : ∃ bs, Hd (x.b = bs) := ⟨_, ⟨rfl⟩⟩
    obtain ⟨m, hm⟩ : ∃ m, Hd (bs.length = m) := ⟨_, ⟨rfl⟩⟩
    rw [hbs.out, hm.out] at hbl1 ⊢
    by_cases hd : x.done = false
    · rw [if_pos hd]
      go_enter Tryd.func20, Tryd.ntmps20
      go_wp2_with (first
        | (refine box_blk rfl 30 _ rfl _ rfl (ints .u8 id) rfl ?_; intro gb w1 hgb hbb hB1 hs1
           clear hgb hs1)
        | (refine load_blk rfl 30 _ rfl gb rfl 30 _ hbb 32 5 arrHash (by simp [ints, HI.out]) infoHash ?_)
        | (go_at_call 27; refine (named_calls id (H.out.below hB1) HI.out HLEN.out).mono ?_
           rintro e w2 ⟨he, ⟨F', F2', hst, hsub⟩, hup⟩
           rw [hr.out] at he
           subst he
           have hu2 := (Upd.of_below hB1 F).trans hup (fun j _ hj => hj)
           have hsub2 : Sub F' F w := fun k hk => (hsub k hk).imp (fun h => h) (fun h => by have := hB1.size; omega)
           have e16 := (hE.below (hu2.below hBw hF)).errs.cell 16 (by omega)
           have e1 := (hE.below (hu2.below hBw hF)).errs.cell 1 (by omega)
           simp only [globs, List.getD_cons_zero, List.getD_cons_succ] at e16 e1
           obtain ⟨x2, g2, vb2, hx2, hv2, hxl2, hb2, ho2, _⟩ := hst.focus (posOf id st.l) (by rw [HT.out]; simpa using HK.out)
           rw [HU.out] at hv2
           injection hv2 with hv2; injection hv2 with hv2; injection hv2 with hv2; injection hv2 with hv2
           subst hv2
           have hx3 : x2 = { x with age := 0 } := by
             rw [HT.out, List.getElem?_set_self HK.out] at hx2
             injection hx2 with hx2; exact hx2.symm
           obtain ⟨A2, c2, hvb2, hc2, hA2, hr2⟩ := ho2.parts
           have hb3 : x2.b = bs := by rw [hx3]; exact hbs.out
           rw [hb3] at hvb2 hc2 hr2
           rw [hm.out] at hvb2 hc2
           have c33 : w2.cell? ⟨g, 33, none⟩ = some (.slice A2 m c2) := by rw [hb2.cell]; have := itemC_at x2 vb2 hxl2 1; rw [this]; simp [hvb2]
           have c34 : w2.cell? ⟨g, 34, none⟩ = some (.bool x.done) := by rw [hb2.cell]; have := itemC_at x2 vb2 hxl2 2; rw [this]; simp [hx3]
           have HR2 := hid hr2
           have HA2 := hid hA2
           clear hb2 ho2 hx2 hx3 hb3 hbb hr2 hA2 hvb2)
        | fail)
      go_quiet (fail)
      go_wp2_with fail
      refine bodyPost_ret (results_tmp2 rfl _ _ rfl rfl) rfl ?_
      exact ⟨_, F', v, vs, F2', rfl, Own.nil _ _ _ _, hst.below (below_drewN (Below.refl _ _) _), hsub2, hu2.drewN _, fun k hk => by simp [Value.ownBlock] at hk⟩
    · have hd2 : x.done = true := by simpa using hd
      rw [if_neg hd]
      by_cases hr2 : n < 0 ∨ 200 < n ∨ off < 0 ∨ (m : Int) < off ∨ (m : Int) - off < n
      · rw [if_pos hr2]
        have HR := hid hr2
        have hcase : n < 0 ∨ (¬ n < 0 ∧ 200 < n) ∨ (¬ n < 0 ∧ ¬ 200 < n ∧ off < 0) ∨ (¬ n < 0 ∧ ¬ 200 < n ∧ ¬ off < 0 ∧ (m : Int) < off) ∨ (¬ n < 0 ∧ ¬ 200 < n ∧ ¬ off < 0 ∧ ¬ (m : Int) < off ∧ (m : Int) - off < n) := by omega
        clear hr2
        rcases hcase with h1 | ⟨h1, h2⟩ | ⟨h1, h2, h3⟩ | ⟨h1, h2, h3, h4⟩ | ⟨h1, h2, h3, h4, h5⟩
        all_goals
          try have ha : IntKind.i64.wrap ((m : Int) - off) = (m : Int) - off := IntWalk.i64_in _ (by omega)
          go_enter Tryd.func20, Tryd.ntmps20
          go_wp2_with (first
            | (refine box_blk rfl 30 _ rfl _ rfl (ints .u8 id) rfl ?_; intro gb w1 hgb hbb hB1 hs1
               clear hgb hs1)
            | (refine load_blk rfl 30 _ rfl gb rfl 30 _ hbb 32 5 arrHash (by simp [ints, HI.out]) infoHash ?_)
            | (go_at_call 27; refine (named_calls id (H.out.below hB1) HI.out HLEN.out).mono ?_
               rintro e w2 ⟨he, ⟨F', F2', hst, hsub⟩, hup⟩
               rw [hr.out] at he
               subst he
               have hu2 := (Upd.of_below hB1 F).trans hup (fun j _ hj => hj)
               have hsub2 : Sub F' F w := fun k hk => (hsub k hk).imp (fun h => h) (fun h => by have := hB1.size; omega)
               have e16 := (hE.below (hu2.below hBw hF)).errs.cell 16 (by omega)
               have e1 := (hE.below (hu2.below hBw hF)).errs.cell 1 (by omega)
               simp only [globs, List.getD_cons_zero, List.getD_cons_succ] at e16 e1
               obtain ⟨x2, g2, vb2, hx2, hv2, hxl2, hb2, ho2, _⟩ := hst.focus (posOf id st.l) (by rw [HT.out]; simpa using HK.out)
               rw [HU.out] at hv2
               injection hv2 with hv2; injection hv2 with hv2; injection hv2 with hv2; injection hv2 with hv2
               subst hv2
               have hx3 : x2 = { x with age := 0 } := by
                 rw [HT.out, List.getElem?_set_self HK.out] at hx2
                 injection hx2 with hx2; exact hx2.symm
               obtain ⟨A2, c2, hvb2, hc2, hA2, hr2⟩ := ho2.parts
               have hb3 : x2.b = bs := by rw [hx3]; exact hbs.out
               rw [hb3] at hvb2 hc2 hr2
               rw [hm.out] at hvb2 hc2
               have c33 : w2.cell? ⟨g, 33, none⟩ = some (.slice A2 m c2) := by rw [hb2.cell]; have := itemC_at x2 vb2 hxl2 1; rw [this]; simp [hvb2]
               have c34 : w2.cell? ⟨g, 34, none⟩ = some (.bool x.done) := by rw [hb2.cell]; have := itemC_at x2 vb2 hxl2 2; rw [this]; simp [hx3]
               have HR2 := hid hr2
               have HA2 := hid hA2
               clear hb2 ho2 hx2 hx3 hb3 hbb hr2 hA2 hvb2)
            | fail)
          go_quiet (fail)
          go_wp2_with fail
          refine bodyPost_ret (results_tmp2 rfl _ _ rfl rfl) rfl ?_
          exact ⟨_, F', v, vs, F2', rfl, Own.nil _ _ _ _, hst.below (below_drewN (Below.refl _ _) _), hsub2, hu2.drewN _, fun k hk => by simp [Value.ownBlock] at hk⟩
      · rw [if_neg hr2]
        obtain ⟨f, hf⟩ : ∃ f : Nat, off = (f : Int) := ⟨off.toNat, by omega⟩
        obtain ⟨q, hq⟩ : ∃ q : Nat, n = (q : Int) := ⟨n.toNat, by omega⟩
        subst hf hq
        have h1 : ¬ (q : Int) < 0 := by omega
        have h2 : ¬ 200 < (q : Int) := by omega
        have h3 : ¬ (f : Int) < 0 := by omega
        have h4 : ¬ (m : Int) < f := by omega
        have h5 : ¬ (m : Int) - f < q := by omega
        have ha : IntKind.i64.wrap ((m : Int) - f) = (m : Int) - f := IntWalk.i64_in _ (by omega)
        have ha2 : IntKind.i64.wrap ((f : Int) + q) = (f : Int) + q := IntWalk.i64_in _ (by omega)
        clear hr2 hn ho
        have hR : Hd ((bs.drop ((f : Int)).toNat).take ((q : Int)).toNat = (bs.drop f).take q) := hid rfl
        rw [hR.out]
        have hlq : Hd (q = ((bs.drop f).take q).length) := hid (by rw [List.length_take, List.length_drop, hm.out]; omega)
        go_enter Tryd.func20, Tryd.ntmps20
        go_wp2_with (first
          | (refine box_blk rfl 30 _ rfl _ rfl (ints .u8 id) rfl ?_; intro gb w1 hgb hbb hB1 hs1
             clear hgb hs1)
          | (refine load_blk rfl 30 _ rfl gb rfl 30 _ hbb 32 5 arrHash (by simp [ints, HI.out]) infoHash ?_)
          | fail)
        refine (named_calls id (H.out.below hB1) HI.out HLEN.out).mono ?_
        rintro e w2 ⟨he, ⟨F', F2', hst, hsub⟩, hup⟩
        rw [hr.out] at he
        subst he
        have hu2 := (Upd.of_below hB1 F).trans hup (fun j _ hj => hj)
        have hsub2 : Sub F' F w := fun k hk => (hsub k hk).imp (fun h => h) (fun h => by have := hB1.size; omega)
        have e16 := (hE.below (hu2.below hBw hF)).errs.cell 16 (by omega)
        have e1 := (hE.below (hu2.below hBw hF)).errs.cell 1 (by omega)
        simp only [globs, List.getD_cons_zero, List.getD_cons_succ] at e16 e1
        obtain ⟨x2, g2, vb2, hx2, hv2, hxl2, hb2, ho2, _⟩ := hst.focus (posOf id st.l) (by rw [HT.out]; simpa using HK.out)
        rw [HU.out] at hv2
        injection hv2 with hv2; injection hv2 with hv2; injection hv2 with hv2; injection hv2 with hv2
        subst hv2
        have hx3 : x2 = { x with age := 0 } := by
          rw [HT.out, List.getElem?_set_self HK.out] at hx2
          injection hx2 with hx2; exact hx2.symm
        obtain ⟨A2, c2, hvb2, hc2, hA2, hr2⟩ := ho2.parts
        have hb3 : x2.b = bs := by rw [hx3]; exact hbs.out
        rw [hb3] at hvb2 hc2 hr2
        rw [hm.out] at hvb2 hc2
        have c33 : w2.cell? ⟨g, 33, none⟩ = some (.slice A2 m c2) := by rw [hb2.cell]; have := itemC_at x2 vb2 hxl2 1; rw [this]; simp [hvb2]
        have c34 : w2.cell? ⟨g, 34, none⟩ = some (.bool x.done) := by rw [hb2.cell]; have := itemC_at x2 vb2 hxl2 2; rw [this]; simp [hx3]
        have HR2 := hid hr2
        have HA2 := hid hA2
        clear hb2 ho2 hx2 hx3 hb3 hbb hr2 hA2 hvb2
        have hB2 : w.heap.size ≤ w2.heap.size := hu2.size
        cases A2 with
        | none =>
          obtain rfl := HA2.out rfl
          obtain rfl : m = 0 := by omega
          obtain rfl : f = 0 := by omega
          obtain rfl : q = 0 := by omega
          go_wp2_with (first
            | (go_at_call 33; refine (clone_calls none 0 0 [] _ rfl (fun _ => rfl) (.inl rfl) (by simp)).mono ?_; rintro e w3 ⟨u3, rfl, ho3, hB3⟩)
            | fail)
          refine bodyPost_ret (results_tmp2 rfl _ _ rfl rfl) rfl ?_
          refine ⟨_, F', v, vs, F2', rfl, by simpa using ho3.lower hB2, hst.below hB3, hsub2, hu2.trans (Upd.of_below hB3 F) (fun j _ hj => hj), fun k hk hf => by have h1 := hst.lt k hf; have h2 := ho3.base_le k hk; omega⟩
        | some ad =>
          by_cases hcf : c2 = f
          · obtain rfl : q = 0 := by omega
            subst hcf
            go_wp2_with (first
              | (go_at_call 33; refine (clone_calls (some ad) 0 _ [] _ rfl (fun h => by cases h) (.inl rfl) (by simp)).mono ?_; rintro e w3 ⟨u3, rfl, ho3, hB3⟩)
              | fail)
            refine bodyPost_ret (results_tmp2 rfl _ _ rfl rfl) rfl ?_
            refine ⟨_, F', v, vs, F2', rfl, by simpa using ho3.lower hB2, hst.below hB3, hsub2, hu2.trans (Upd.of_below hB3 F) (fun j _ hj => hj), fun k hk hf => by have h1 := hst.lt k hf; have h2 := ho3.base_le k hk; omega⟩
          · have hrs : Hd (Rd w2 (some (ad.add f)) .u8 ((bs.drop f).take q)) := hid (by
              have h1 := (rd_slice HR2.out f).take q
              simpa using h1)
            go_wp2_with (first
              | (go_at_call 33; refine (clone_calls (some (ad.add f)) q _ ((bs.drop f).take q) _ hlq.out (fun h => by cases h) hrs.out (by rw [← hlq.out]; omega)).mono ?_; rintro e w3 ⟨u3, rfl, ho3, hB3⟩)
              | fail)
            refine bodyPost_ret (results_tmp2 rfl _ _ rfl rfl) rfl ?_
            exact ⟨_, F', v, vs, F2', rfl, ho3.lower hB2, hst.below hB3, hsub2, hu2.trans (Upd.of_below hB3 F) (fun j _ hj => hj), fun k hk hf => by have h1 := hst.lt k hf; have h2 := ho3.base_le k hk; omega⟩
  · have HT := hid (touch_none (id := id) (l := st.l) hk)
    have hsl := h.star.length
    have hr := hid (show vs.getD (posOf id st.l) (.pointer none) = .pointer none by rw [List.getD_eq_getElem?_getD, List.getElem?_eq_none (by omega)]; rfl)
    have hgo : Hd (getOf id off n st.l = ([], some 13)) := hid (by unfold getOf; rw [List.getElem?_eq_none (by omega)])
    rw [hgo.out]
    clear hk hsl h
    go_enter Tryd.func20, Tryd.ntmps20
    go_wp2_with (first
      | (refine box_blk rfl 30 _ rfl _ rfl (ints .u8 id) rfl ?_; intro gb w1 hgb hbb hB1 hs1
         clear hgb hs1)
      | (refine load_blk rfl 30 _ rfl gb rfl 30 _ hbb 32 5 arrHash (by simp [ints, HI.out]) infoHash ?_)
      | (go_at_call 27; refine (named_calls id (H.out.below hB1) HI.out HLEN.out).mono ?_
         rintro e w2 ⟨he, ⟨F', F2', hst, hsub⟩, hup⟩
         rw [hr.out] at he
         subst he
         have hu2 := (Upd.of_below hB1 F).trans hup (fun j _ hj => hj)
         have hsub2 : Sub F' F w := fun k hk => (hsub k hk).imp (fun h => h) (fun h => by have := hB1.size; omega)
         have e13 := (hE.below (hu2.below hBw hF)).errs.cell 13 (by omega)
         simp only [globs, List.getD_cons_zero, List.getD_cons_succ] at e13
         clear hbb)
      | fail)
    go_quiet (fail)
    go_wp2_with fail
    refine bodyPost_ret (results_tmp2 rfl _ _ rfl rfl) rfl ?_
    exact ⟨_, F', v, vs, F2', rfl, Own.nil _ _ _ _, hst.below (below_drewN (Below.refl _ _) _), hsub2, hu2.drewN _, fun k hk => by simp [Value.ownBlock] at hk⟩
theorem get_calls {w : World} {P : Nat → Addr} {B : Nat} {F F2 : Nat → Prop} {gs : Nat} {st : StoreD} {v : Value} {vs : List Value} (id : List Int) (off n : Int) (hE : ErrsAt w P B) (hBw : B ≤ w.heap.size) (hF : ∀ k, F k → B ≤ k) (h : StoreAt w F gs st v vs F2) (hid' : id.length = 32) (hlen : st.l.length ≤ 1000000) (hbl : ∀ x ∈ st.l, x.b.length ≤ 1000000)
    (ho : -9223372036854775808 ≤ off ∧ off < 9223372036854775808) (hn : -9223372036854775808 ≤ n ∧ n < 9223372036854775808) :
    Calls Tryd.prog 20 #[.pointer (some ⟨gs, 0, none⟩), .agg (ints .u8 id).toArray, .int .i64 off, .int .i64 n] w fun e w' => (∃ u, e = .returned (.tuple #[u, erV P (getOf id off n st.l).2]) ∧ Own w' w.heap.size 5 .u8 u (getOf id off n st.l).1) ∧ Becomes w F gs w' { st with l := touch id st.l } :=
  (get2_calls id off n hE hBw hF h hid' hlen hbl ho hn).mono fun e w' ⟨u, F', v', vs', F2', he, ho', hs, h1, h2, _⟩ => ⟨⟨u, he, ho'⟩, F', v', vs', F2', hs, h1, h2⟩
end Go.Proofs.YtinpilfnnmkpoaaDoor
/- s[f:], and copy over what one owns. -/
namespace Go.Cour
open Go.RowKit
section
variable {P : Program} {w : World} {ops : Array Oper} {rest : List Oper} {o : Oper} {a : Act} {Q : Exit → Act → World → Prop}
/-- Where s[f:] begins. -/
def cutA (A : Option Addr) (c f : Nat) : Option Addr := if c = f then A else A.map (·.add f)
theorem cutA_some {A : Option Addr} {c f m : Nat} (hf : f < m) (hmc : m ≤ c) : cutA A c f = A.map (·.add f) := by unfold cutA; rw [if_neg (by omega)]
theorem cutA_none {A : Option Addr} {c f : Nat} (hA : A = none → c = 0) (h : cutA A c f = none) : c - f = 0 := by
  unfold cutA at h
  split at h
  · omega
  · have := hA (by simpa using h)
    omega
theorem slice_cut (hw : Region.wanted o (yielded ops a.tmps) = true) (x y : Operand) (t : TypeId) (ho : o.op = .slice t x (some y) none none) (e : TypeId)
    (hu : P.underlying t = some (.slice e)) (hsz : (P.info? e).map (·.size) = some 1) (k : IntKind) (A : Option Addr) (m c f : Nat) (hx : a.eval x = .slice A m c) (hy : a.eval y = .int k (f : Int)) (hf : f ≤ m)
    (h : wpList P ops Q rest (a.put o.dst (.slice (cutA A c f) (m - f) (c - f))) w) : wpList P ops Q (o :: rest) a w := by
  obtain ⟨i, hi, hs⟩ : ∃ i, P.info? e = some i ∧ i.size = 1 := by
    cases hie : P.info? e with
    | none => simp [hie] at hsz
    | some i => exact ⟨i, rfl, by simpa [hie] using hsz⟩
  refine wpList_step fun K hK => ?_
  rw [if_pos hw]
  have hs2 : (sizeOf e).run P w = .ok 1 w := by simp [sizeOf, typeInfo, hi, hs]
  have hrun : (Instr.slice t (.slice A m c) (some (.int k (f : Int))) none none).run P w = .ok (.slice (cutA A c f) (m - f) (c - f)) w := by
    simp [Instr.slice, run_underlying hu, Instr.sliceBounds, run_sliceBound, hs2, hf, cutA]
  have hrun2 : (Instr.sliceAt t (.slice A m c) (some (.int k (f : Int))) none none).run P w = .ok (.slice (cutA A c f) (m - f) (c - f)) w := by
    rw [← hrun]; simp [Instr.sliceAt, run_underlying hu]
  unfold Oper.wp execOp
  simp only [ho, hx, hy, Option.map_some, Option.map_none]
  simp only [Sem.run_bind, Sem.run_pure, hrun2, Result.andThen_ok, Functor.map]
  first
    | exact hK _ _ h
    | (simp [hrun2]; exact hK _ _ h)
/-- s[f:] reads what stands from f on. -/
theorem rd_from {A A' : Option Addr} {k : IntKind} {xs : List Int} {f : Nat} (h : Rd w A k xs) (hA : f < xs.length → A' = A.map (·.add f)) : Rd w A' k (xs.drop f) := by
  by_cases hf : f < xs.length
  · rw [hA hf]
    rcases h with h | ⟨g, o, rfl, h⟩
    · exact .inl (by rw [h]; simp)
    · refine .inr ⟨g, o + f, by rw [Option.map_some, add_lit], fun i hi => ?_⟩
      rw [rd_drop, Nat.add_assoc]
      exact h _ (by rw [List.length_drop] at hi; omega)
  · exact .inl (List.drop_eq_nil_of_le (by omega))
/-- What stands behind copy(s[f:], ys). -/
def laid (xs : List Int) (f n : Nat) (ys : List Int) : List Int := xs.take f ++ ys.take n ++ xs.drop (f + n)
theorem laid_length {xs ys : List Int} {f n : Nat} (h1 : f + n ≤ xs.length) (h2 : n ≤ ys.length) : (laid xs f n ys).length = xs.length := by simp [laid]; omega
theorem copy_own (hgd : o.guard = none) (d s : Operand) (dT sT : TypeId)
    (ho : o.op = .call { callee := .builtin .copy, args := #[d, s], argTypes := #[dT, sT] }) (e : TypeId) (hu : P.underlying dT = some (.slice e)) (hsz : (P.info? e).map (·.size) = some 1)
    (k : IntKind) (x : Value) (xs : List Int) (hown : Own w 0 e k x xs) (A : Option Addr) (m c : Nat) (hx : x = .slice A m c) (hm : xs.length = m) (f : Nat) (hf : f ≤ m)
    (A' : Option Addr) (dCap : Nat) (hd : a.eval d = .slice A' (m - f) dCap) (hA' : f < m → A' = A.map (·.add f))
    (Ab : Option Addr) (q sCap : Nat) (ys : List Int) (hs : a.eval s = .slice Ab q sCap) (hq : ys.length = q) (hr : Rd w Ab k ys) (n : Nat) (hn : n = min q (m - f))
    (h : ∀ w', Own w' 0 e k x (laid xs f n ys) → Upd (fun j => x.ownBlock = some j) w w' → wpList P ops Q rest (a.put o.dst (.int .i64 (n : Int))) w') : wpList P ops Q (o :: rest) a w := by
  by_cases h0 : n = 0
  · subst h0
    refine wpList_copy_nothing hgd d s dT sT ho e hu hsz A' Ab (m - f) dCap q sCap hd hs hn.symm ?_
    exact h w (by unfold laid; rw [List.take_zero, List.append_nil, Nat.add_zero, List.take_append_drop]; exact hown) (Upd.refl _ _)
  · have hown0 := hown
    obtain ⟨h1, ⟨h2, h3⟩ | ⟨g, cap, cur, h2, hbg, hh, hnc, hcm, hcs, ht⟩⟩ := hown
    · omega
    · obtain ⟨rfl, hmm, rfl⟩ : A = some ⟨g, 0, none⟩ ∧ m = xs.length ∧ c = cap := by
        rw [hx] at h2; injection h2 with h2 h3 h4; exact ⟨h2, h3, h4⟩
      have hA2 : A' = some ⟨g, f, none⟩ := by rw [hA' (by omega), Option.map_some, add_lit, Nat.zero_add]
      subst hA2
      have hl : (ints k (ys.take n)).length = n := by simp; omega
      obtain ⟨gb, ob, rfl, hcell⟩ : ∃ gb ob, Ab = some ⟨gb, ob, none⟩ ∧ ∀ i, i < ys.length → w.cell? ⟨gb, ob + i, none⟩ = some (.int k (rd ys i)) := by
        rcases hr with hr | hr
        · rw [hr] at hq; simp at hq; omega
        · exact hr
      refine wpList_copy_own hgd d s dT sT ho e hu hsz g f (m - f) dCap ⟨gb, ob, none⟩ q sCap hd hs cur e hh (ints k (ys.take n)) (by rw [hl]; exact hn) ?_ (by rw [hl]; omega) ?_ ?_
      · intro j v hj
        have hj' : j < n := by have := (List.getElem?_eq_some_iff.1 hj).1; omega
        have hjl : j < ys.length := by omega
        rw [ints_get k _ j (by simp; omega)] at hj
        injection hj with hj
        subst hj
        rw [rd_take _ _ _ hj', add_lit]
        exact hcell j hjl
      · intro v hv
        obtain ⟨y, _, rfl⟩ := List.mem_map.1 hv
        rfl
      · rw [hl]
        have hsplit : cur.toList = ints k xs ++ cur.toList.drop m := by
          rw [← List.take_append_drop m cur.toList, List.drop_left' (by simp; omega)]
          rw [Nat.mul_one, ← hmm] at ht
          rw [ht]
        have hrow : cur.toList.take f ++ (ints k (ys.take n) ++ cur.toList.drop (f + n)) = ints k (laid xs f n ys) ++ cur.toList.drop m := by
          generalize cur.toList.drop m = R at hsplit
          have hlx : (ints k xs).length = m := by simp; omega
          rw [hsplit, List.take_append_of_le_length (by omega), List.drop_append_of_le_length (by omega)]
          simp [laid, ints, List.map_take, List.map_drop]
        have hlen := laid_length (xs := xs) (ys := ys) (f := f) (n := n) (by omega) (by omega)
        refine h _ ⟨by simp, .inr ⟨g, c, _, by rw [h2, hlen], Nat.zero_le _, setRow_heap w g cur _ e _ hh, by omega, hcm, ?_, ?_⟩⟩ ((Upd.setRow w g _).mono fun j _ hj => by subst hj; rw [h2]; rfl)
        · simp; omega
        · rw [hrow, List.take_left' (by simp)]
end
end Go.Cour
/- The store's Put. -/
namespace Go.Proofs.YtinpilfnnmkpoaaDoor
open Go.RowKit Go.Cour
/-- Bytes behind others' being laid on them. -/
def putB (xs : List Int) (f : Nat) (bs : List Int) : List Int := xs.take f ++ bs ++ xs.drop (f + bs.length)
theorem putB_length {xs bs : List Int} {f : Nat} (h : f ≤ xs.length) : (putB xs f bs).length = max xs.length (f + bs.length) := by simp [putB]; omega
theorem laid_putB {xs ys : List Int} {f : Nat} (hf : f ≤ xs.length) : laid xs f (min ys.length (xs.length - f)) ys ++ ys.drop (min ys.length (xs.length - f)) = putB xs f ys := by
  by_cases h : ys.length ≤ xs.length - f
  · rw [Nat.min_eq_left h]
    simp [laid, putB]
  · rw [Nat.min_eq_right (by omega)]
    have h1 : xs.drop (f + (xs.length - f)) = [] := List.drop_eq_nil_of_le (by omega)
    have h2 : xs.drop (f + ys.length) = [] := List.drop_eq_nil_of_le (by omega)
    simp [laid, putB, h1, h2]
/-- How many bytes a blob has behind a Put, or why not. -/
def putOf (id : List Int) (off : Int) (bs : List Int) (l : List Item) : Int × Option Nat := match l[posOf id l]? with
  | none => (0, some 13)
  | some x => if x.done = true then (0, some 16) else if off < 0 ∨ (x.b.length : Int) < off ∨ x.n - off < bs.length then (0, some 1) else (((putB x.b off.toNat bs).length : Int), none)
def putL (id : List Int) (off : Int) (bs : List Int) (l : List Item) : List Item := match l[posOf id l]? with
  | none => l
  | some x => l.set (posOf id l) (if (putOf id off bs l).2 = none then { x with age := 0, b := putB x.b off.toNat bs } else { x with age := 0 })
theorem putL_err {id bs : List Int} {off : Int} {l : List Item} (h : (putOf id off bs l).2 ≠ none) : putL id off bs l = touch id l := by
  unfold putL touch
  cases l[posOf id l]? with
  | none => rfl
  | some x => simp only [if_neg h]
theorem putOf_none {id bs : List Int} {off : Int} {l : List Item} (h : ¬ posOf id l < l.length) : putOf id off bs l = (0, some 13) := by
  unfold putOf; rw [List.getElem?_eq_none (by omega)]
theorem putOf_done {id bs : List Int} {off : Int} {l : List Item} {x : Item} (hx : l[posOf id l]? = some x) (hd : x.done = true) : putOf id off bs l = (0, some 16) := by
  unfold putOf; rw [hx]; simp only [if_pos hd]
theorem putOf_out {id bs : List Int} {off : Int} {l : List Item} {x : Item} (hx : l[posOf id l]? = some x) (hd : ¬ x.done = true) (hr : off < 0 ∨ (x.b.length : Int) < off ∨ x.n - off < bs.length) : putOf id off bs l = (0, some 1) := by
  unfold putOf; rw [hx]; simp only [if_neg hd, if_pos hr]
theorem putOf_ok {id bs : List Int} {off : Int} {l : List Item} {x : Item} (hx : l[posOf id l]? = some x) (hd : ¬ x.done = true) (hr : ¬ (off < 0 ∨ (x.b.length : Int) < off ∨ x.n - off < bs.length)) : putOf id off bs l = (((putB x.b off.toNat bs).length : Int), none) := by
  unfold putOf; rw [hx]; simp only [if_neg hd, if_neg hr]
theorem putL_ok {id bs : List Int} {off : Int} {l : List Item} {x : Item} (hx : l[posOf id l]? = some x) (hd : ¬ x.done = true) (hr : ¬ (off < 0 ∨ (x.b.length : Int) < off ∨ x.n - off < bs.length)) : putL id off bs l = l.set (posOf id l) { x with age := 0, b := putB x.b off.toNat bs } := by
  unfold putL; rw [hx, putOf_ok hx hd hr]; simp
theorem itemC_b (x : Item) (vb vb' : Value) (h : x.id.length = 32) (xs : List Int) : (itemC x vb).set 33 vb' = itemC { x with b := xs } vb' := by
  have hl : (ints .u8 x.id).length = 32 := by simp [h]
  simp only [itemC]
  rw [List.set_append_right _ _ (by omega), hl]
  rfl
set_option maxHeartbeats 1000000 in
set_option maxRecDepth 100000 in
theorem put_calls {w : World} {P : Nat → Addr} {B : Nat} {F F2 : Nat → Prop} {gs : Nat} {st : StoreD} {v : Value} {vs : List Value} (id : List Int) (off : Int) (bs : List Int) (Ab : Option Addr) (q cb : Nat) (hE : ErrsAt w P B) (hBw : B ≤ w.heap.size) (hF : ∀ k, F k → B ≤ k) (h : StoreAt w F gs st v vs F2) (hG : Good st) (hid' : id.length = 32)
    (ho : -9223372036854775808 ≤ off ∧ off < 9223372036854775808) (hq : bs.length = q) (hq2 : q ≤ 1000000) (hqc : q ≤ cb) (hAb : Ab = none → cb = 0) (hrd : Rd w Ab .u8 bs) (hsep : ∀ a, Ab = some a → bs ≠ [] → ¬ F a.block) :
    Calls Tryd.prog 19 #[.pointer (some ⟨gs, 0, none⟩), .agg (ints .u8 id).toArray, .int .i64 off, .slice Ab q cb] w fun e w' => e = .returned (.tuple #[.int .i64 (putOf id off bs st.l).1, erV P (putOf id off bs st.l).2]) ∧ Becomes w F gs w' { st with l := putL id off bs st.l } := by
  have HI := hid hid'
  have H := hid h
  have HLEN := hid (show st.l.length ≤ 1000000 by have := hG.len; omega)
  have HRD := hid hrd
  have HSEP := hid hsep
  have HAB := hid hAb
  clear hid' hrd hsep hAb
  by_cases hk : posOf id st.l < st.l.length
  · obtain ⟨x, g, vb, hx, hu, hxl, hb, ho', hFg, hFb, hgs, hvg, hvb, hback⟩ := h.focus _ hk
    have hxn := hG.n x (List.mem_of_getElem? hx)
    have hxb := hG.b x (List.mem_of_getElem? hx)
    have hr := hid (show vs.getD (posOf id st.l) (.pointer none) = .pointer (some ⟨g, 0, none⟩) by rw [List.getD_eq_getElem?_getD, hu]; rfl)
    have HT := hid (touch_some hx)
    have HX := hid hx
    have HK := hid hk
    have HU := hid hu
    have HG := hid hG
    clear hback ho' hgs hvg hvb hFg hFb hk h hb hx hu hG
    obtain ⟨xb, hbs⟩ : ∃ xb, Hd (x.b = xb) := ⟨_, ⟨rfl⟩⟩
    obtain ⟨m, hm⟩ : ∃ m, Hd (xb.length = m) := ⟨_, ⟨rfl⟩⟩
    obtain ⟨xn, hxnn⟩ : ∃ xn, Hd (x.n = xn) := ⟨_, ⟨rfl⟩⟩
    rw [hbs.out, hm.out, hxnn.out] at hxb
    rw [hxnn.out] at hxn
    by_cases hd : x.done = true
    · have hgo := hid (putOf_done (off := off) (bs := bs) HX.out hd)
      have hpl := hid (putL_err (id := id) (off := off) (bs := bs) (l := st.l) (by rw [hgo.out]; simp))
      rw [hgo.out, hpl.out]
      go_enter Tryd.func19, Tryd.ntmps19
      go_wp2_with (first
        | (refine box_blk rfl 30 _ rfl _ rfl (ints .u8 id) rfl ?_; intro gb w1 hgb hbb hB1 hs1
           clear hgb hs1)
        | (refine load_blk rfl 30 _ rfl gb rfl 30 _ hbb 32 5 arrHash (by simp [ints, HI.out]) infoHash ?_)
        | (go_at_call 27; refine (named_calls id (H.out.below hB1) HI.out HLEN.out).mono ?_
           rintro e w2 ⟨he, ⟨F', F2', hst, hsub⟩, hup⟩
           rw [hr.out] at he
           subst he
           have hu2 := (Upd.of_below hB1 F).trans hup (fun j _ hj => hj)
           have hsub2 : Sub F' F w := fun k hk => (hsub k hk).imp (fun h => h) (fun h => by have := hB1.size; omega)
           have e16 := (hE.below (hu2.below hBw hF)).errs.cell 16 (by omega)
           have e1 := (hE.below (hu2.below hBw hF)).errs.cell 1 (by omega)
           simp only [globs, List.getD_cons_zero, List.getD_cons_succ] at e16 e1
           obtain ⟨x2, g2, vb2, hx2, hv2, hxl2, hb2, ho2, hFg2, hFb2, hgs2, hvg2, hvb22, hbk2⟩ := hst.focus (posOf id st.l) (by rw [HT.out]; simpa using HK.out)
           rw [HU.out] at hv2
           injection hv2 with hv2; injection hv2 with hv2; injection hv2 with hv2; injection hv2 with hv2
           subst hv2
           have hx3 : x2 = { x with age := 0 } := by
             rw [HT.out, List.getElem?_set_self HK.out] at hx2
             injection hx2 with hx2; exact hx2.symm
           obtain ⟨A2, c2, hvb2, hc2, hA2, hr2⟩ := ho2.parts
           have hb3 : x2.b = xb := by rw [hx3]; exact hbs.out
           rw [hb3] at hvb2 hc2 hr2
           rw [hm.out] at hvb2 hc2
           have c33 : w2.cell? ⟨g, 33, none⟩ = some (.slice A2 m c2) := by rw [hb2.cell]; have := itemC_at x2 vb2 hxl2 1; rw [this]; simp [hvb2]
           have c34 : w2.cell? ⟨g, 34, none⟩ = some (.bool x.done) := by rw [hb2.cell]; have := itemC_at x2 vb2 hxl2 2; rw [this]; simp [hx3]
           have c32 : w2.cell? ⟨g, 32, none⟩ = some (.int .i64 xn) := by rw [hb2.cell]; have := itemC_at x2 vb2 hxl2 0; rw [this]; simp [hx3, hxnn.out]
           have HB2 := hid hb2
           have HO2 := hid ho2
           have HX2 := hid hx3
           have HB3 := hid hb3
           replace hvb2 := hid hvb2
           clear hb2 ho2 hx2 hx3 hb3 hbb hr2 hA2 hgs2 hvg2 hvb22)
        | fail)
      go_quiet (fail)
      go_wp2_with fail
      refine bodyPost_ret (results_tmp2 rfl _ _ rfl rfl) rfl ?_
      exact ⟨rfl, F', v, vs, F2', hst.below (below_drewN (Below.refl _ _) _), hsub2, hu2.drewN _⟩
    · have hd2 : x.done = false := by simpa using hd
      by_cases hr2 : off < 0 ∨ (m : Int) < off ∨ xn - off < q
      · have hgo := hid (putOf_out (off := off) (bs := bs) HX.out hd (by rw [hbs.out, hm.out, hxnn.out, hq]; exact hr2))
        have hpl := hid (putL_err (id := id) (off := off) (bs := bs) (l := st.l) (by rw [hgo.out]; simp))
        rw [hgo.out, hpl.out]
        have hcase : off < 0 ∨ (¬ off < 0 ∧ (m : Int) < off) ∨ (¬ off < 0 ∧ ¬ (m : Int) < off ∧ xn - off < q) := by omega
        clear hr2
        rcases hcase with h1 | ⟨h1, h2⟩ | ⟨h1, h2, h3⟩
        all_goals
          try have ha : IntKind.i64.wrap (xn - off) = xn - off := IntWalk.i64_in _ (by omega)
          go_enter Tryd.func19, Tryd.ntmps19
          go_wp2_with (first
            | (refine box_blk rfl 30 _ rfl _ rfl (ints .u8 id) rfl ?_; intro gb w1 hgb hbb hB1 hs1
               clear hgb hs1)
            | (refine load_blk rfl 30 _ rfl gb rfl 30 _ hbb 32 5 arrHash (by simp [ints, HI.out]) infoHash ?_)
            | (go_at_call 27; refine (named_calls id (H.out.below hB1) HI.out HLEN.out).mono ?_
               rintro e w2 ⟨he, ⟨F', F2', hst, hsub⟩, hup⟩
               rw [hr.out] at he
               subst he
               have hu2 := (Upd.of_below hB1 F).trans hup (fun j _ hj => hj)
               have hsub2 : Sub F' F w := fun k hk => (hsub k hk).imp (fun h => h) (fun h => by have := hB1.size; omega)
               have e16 := (hE.below (hu2.below hBw hF)).errs.cell 16 (by omega)
               have e1 := (hE.below (hu2.below hBw hF)).errs.cell 1 (by omega)
               simp only [globs, List.getD_cons_zero, List.getD_cons_succ] at e16 e1
               obtain ⟨x2, g2, vb2, hx2, hv2, hxl2, hb2, ho2, hFg2, hFb2, hgs2, hvg2, hvb22, hbk2⟩ := hst.focus (posOf id st.l) (by rw [HT.out]; simpa using HK.out)
               rw [HU.out] at hv2
               injection hv2 with hv2; injection hv2 with hv2; injection hv2 with hv2; injection hv2 with hv2
               subst hv2
               have hx3 : x2 = { x with age := 0 } := by
                 rw [HT.out, List.getElem?_set_self HK.out] at hx2
                 injection hx2 with hx2; exact hx2.symm
               obtain ⟨A2, c2, hvb2, hc2, hA2, hr2⟩ := ho2.parts
               have hb3 : x2.b = xb := by rw [hx3]; exact hbs.out
               rw [hb3] at hvb2 hc2 hr2
               rw [hm.out] at hvb2 hc2
               have c33 : w2.cell? ⟨g, 33, none⟩ = some (.slice A2 m c2) := by rw [hb2.cell]; have := itemC_at x2 vb2 hxl2 1; rw [this]; simp [hvb2]
               have c34 : w2.cell? ⟨g, 34, none⟩ = some (.bool x.done) := by rw [hb2.cell]; have := itemC_at x2 vb2 hxl2 2; rw [this]; simp [hx3]
               have c32 : w2.cell? ⟨g, 32, none⟩ = some (.int .i64 xn) := by rw [hb2.cell]; have := itemC_at x2 vb2 hxl2 0; rw [this]; simp [hx3, hxnn.out]
               have HB2 := hid hb2
               have HO2 := hid ho2
               have HX2 := hid hx3
               have HB3 := hid hb3
               replace hvb2 := hid hvb2
               clear hb2 ho2 hx2 hx3 hb3 hbb hr2 hA2 hgs2 hvg2 hvb22)
            | fail)
          go_quiet (fail)
          go_wp2_with fail
          refine bodyPost_ret (results_tmp2 rfl _ _ rfl rfl) rfl ?_
          exact ⟨rfl, F', v, vs, F2', hst.below (below_drewN (Below.refl _ _) _), hsub2, hu2.drewN _⟩
      · have hr3 : ¬ (off < 0 ∨ (x.b.length : Int) < off ∨ x.n - off < bs.length) := by rw [hbs.out, hm.out, hxnn.out, hq]; exact hr2
        have hgo := hid (putOf_ok (off := off) (bs := bs) HX.out hd hr3)
        have hpl := hid (putL_ok (id := id) (off := off) (bs := bs) (l := st.l) HX.out hd hr3)
        rw [hgo.out, hpl.out]
        clear hr3
        obtain ⟨f, hf⟩ : ∃ f : Nat, off = (f : Int) := ⟨off.toNat, by omega⟩
        subst hf
        rw [Int.toNat_natCast]
        have h1 : ¬ (f : Int) < 0 := by omega
        have h2 : ¬ (m : Int) < f := by omega
        have h3 : ¬ xn - f < q := by omega
        have ha : IntKind.i64.wrap (xn - f) = xn - f := IntWalk.i64_in _ (by omega)
        clear hr2 ho
        obtain ⟨n, hn⟩ : ∃ n, Hd (n = min q (m - f)) := ⟨_, ⟨rfl⟩⟩
        have hnq : n ≤ q := by rw [hn.out]; exact Nat.min_le_left _ _
        have hlp := hid (laid_putB (xs := xb) (ys := bs) (f := f) (by rw [hm.out]; omega))
        rw [hq, hm.out, ← hn.out] at hlp
        obtain ⟨A3, hA3⟩ : ∃ A3, Hd (cutA Ab cb n = A3) := ⟨_, ⟨rfl⟩⟩
        go_enter Tryd.func19, Tryd.ntmps19
        go_wp2_with (first
          | (refine box_blk rfl 30 _ rfl _ rfl (ints .u8 id) rfl ?_; intro gb w1 hgb hbb hB1 hs1
             clear hgb hs1)
          | (refine load_blk rfl 30 _ rfl gb rfl 30 _ hbb 32 5 arrHash (by simp [ints, HI.out]) infoHash ?_)
          | fail)
        refine (named_calls id (H.out.below hB1) HI.out HLEN.out).mono ?_
        rintro e w2 ⟨he, ⟨F', F2', hst, hsub⟩, hup⟩
        rw [hr.out] at he
        subst he
        have hu2 := (Upd.of_below hB1 F).trans hup (fun j _ hj => hj)
        have hsub2 : Sub F' F w := fun k hk => (hsub k hk).imp (fun h => h) (fun h => by have := hB1.size; omega)
        have e16 := (hE.below (hu2.below hBw hF)).errs.cell 16 (by omega)
        have e1 := (hE.below (hu2.below hBw hF)).errs.cell 1 (by omega)
        simp only [globs, List.getD_cons_zero, List.getD_cons_succ] at e16 e1
        obtain ⟨x2, g2, vb2, hx2, hv2, hxl2, hb2, ho2, hFg2, hFb2, hgs2, hvg2, hvb22, hbk2⟩ := hst.focus (posOf id st.l) (by rw [HT.out]; simpa using HK.out)
        rw [HU.out] at hv2
        injection hv2 with hv2; injection hv2 with hv2; injection hv2 with hv2; injection hv2 with hv2
        subst hv2
        have hx3 : x2 = { x with age := 0 } := by
          rw [HT.out, List.getElem?_set_self HK.out] at hx2
          injection hx2 with hx2; exact hx2.symm
        obtain ⟨A2, c2, hvb2, hc2, hA2, hr2⟩ := ho2.parts
        have hb3 : x2.b = xb := by rw [hx3]; exact hbs.out
        rw [hb3] at hvb2 hc2 hr2
        rw [hm.out] at hvb2 hc2
        have c33 : w2.cell? ⟨g, 33, none⟩ = some (.slice A2 m c2) := by rw [hb2.cell]; have := itemC_at x2 vb2 hxl2 1; rw [this]; simp [hvb2]
        have c34 : w2.cell? ⟨g, 34, none⟩ = some (.bool x.done) := by rw [hb2.cell]; have := itemC_at x2 vb2 hxl2 2; rw [this]; simp [hx3]
        have c32 : w2.cell? ⟨g, 32, none⟩ = some (.int .i64 xn) := by rw [hb2.cell]; have := itemC_at x2 vb2 hxl2 0; rw [this]; simp [hx3, hxnn.out]
        have HB2 := hid hb2
        have HO2 := hid ho2
        have HX2 := hid hx3
        have HB3 := hid hb3
        replace hvb2 := hid hvb2
        clear hb2 ho2 hx2 hx3 hb3 hbb hr2 hA2 hgs2 hvg2 hvb22
        have HH := hid hbk2
        have hrd2 := HRD.out.upd hu2 HSEP.out
        have hsz2 : w.heap.size ≤ w2.heap.size := hu2.size
        have hsp2 : ∀ a, Ab = some a → bs ≠ [] → ¬ vb2.ownBlock = some a.block := fun a ha hne hv => by
          rcases hsub2 _ (hFb2 _ hv) with h4 | h4
          · exact HSEP.out a ha hne h4
          · rcases HRD.out with h5 | ⟨g5, o5, h5, h6⟩
            · exact hne h5
            · rw [ha] at h5; injection h5 with h5; subst h5
              have := lt_of_cell (h6 0 (by cases bs with | nil => exact absurd rfl hne | cons => simp))
              simp only at h4; omega
        have HSP2 := hid hsp2
        have HFB := hid hFb2
        clear hbk2 hsp2 hFb2
        go_wp2_with (first
          | (refine slice_cut rfl (.tmp 52) (.tmp 53) 41 rfl 5 undBytes sizeU8B .i64 A2 m c2 f rfl rfl (by omega) ?_)
          | (refine copy_own rfl (.tmp 54) (.tmp 55) 41 41 rfl 5 undBytes sizeU8B .u8 vb2 xb (HB3.out ▸ HO2.out) A2 m c2 hvb2.out hm.out f (by omega) (cutA A2 c2 f) (c2 - f) rfl (fun hlt => cutA_some hlt hc2) Ab q cb bs rfl hq hrd2 n hn.out ?_
             intro w3 hown3 hupd3)
          | fail)
        have hne3 : vb2.ownBlock ≠ some g := blk_own_ne (HB2.out) HO2.out (by decide)
        have hb4 := HB2.out.upd hupd3 hne3
        have c33' : w3.cell? ⟨g, 33, none⟩ = some (.slice A2 m c2) := by rw [hb4.cell]; have := itemC_at x2 vb2 hxl2 1; rw [this]; simp [hvb2.out]
        have hrd3 := hid (hrd2.upd hupd3 (fun a ha hne hv => HSP2.out a ha hne hv))
        have hrd4 := hid (rd_from (A' := A3) (f := n) hrd3.out (fun hlt => by rw [← hA3.out]; exact cutA_some (m := q) (by omega) hqc))
        have hA4 := hid (show A3 = none → cb - n = 0 from fun hh => cutA_none HAB.out (hA3.out.trans hh))
        have hlX := laid_length (xs := xb) (ys := bs) (f := f) (n := n) (by have := hn.out; have := hm.out; omega) (by omega)
        have HLX := hid hlX
        have HB4 := hid hb4
        have HO3 := hid hown3
        have HU3 := hid hupd3
        clear c33 c34 c32 hlX hb4 hown3 hupd3 hrd2
        have hT := (show w3.drew.cell? ⟨g, 33, none⟩ = some (.slice A2 m c2) from c33')
        refine wp_region_T (T := fun w' => w'.cell? ⟨g, 33, none⟩ = some (.slice A2 m c2)) (by kernel_rfl) (by kernel_rfl) hT ?_
        show wpT _ _ _ _ [0, 1, 2, 3, 4, 5, 6, 7, 8, 9, 10, 11] _ _
        apply wpT_read (i := 0) rfl hT rfl -- Op.move t10
        · intro w' hT'
          simp only [List.getElem_toArray, List.getElem_cons_zero, List.getElem_cons_succ]
          go_wp2_with fail
          first | exact ⟨rfl, rfl, rfl⟩ | rfl
        apply wpT_read (i := 1) rfl hT rfl -- Op.move t10
        · intro w' hT'
          simp only [List.getElem_toArray, List.getElem_cons_zero, List.getElem_cons_succ]
          go_wp2_with fail
          first | exact ⟨rfl, rfl, rfl⟩ | rfl
        apply wpT_read (i := 2) rfl hT rfl -- Op.nilCheck t58
        · intro w' hT'
          simp only [List.getElem_toArray, List.getElem_cons_zero, List.getElem_cons_succ]
          go_wp2_with fail
          first | exact ⟨rfl, rfl, rfl⟩ | rfl
        apply wpT_read (i := 3) rfl hT rfl -- Op.fieldAddr 62 t59 2
        · intro w' hT'
          simp only [List.getElem_toArray, List.getElem_cons_zero, List.getElem_cons_succ]
          go_wp2_with fail
          first | exact ⟨rfl, rfl, rfl⟩ | rfl
        apply wpT_read (i := 4) rfl hT rfl -- Op.load 41 t60
        · intro w' hT'
          simp only [List.getElem_toArray, List.getElem_cons_zero, List.getElem_cons_succ]
          have c33'' := hT'
          go_wp2_with (first
            | (refine slice_cut rfl (.tmp 62) (.tmp 63) 41 rfl 5 undBytes sizeU8B .i64 Ab q cb n rfl rfl hnq ?_; rw [hA3.out])
            | fail)
          first | exact ⟨rfl, rfl, rfl⟩ | rfl
        apply wpT_read (i := 5) rfl hT rfl -- Op.move t3
        · intro w' hT'
          simp only [List.getElem_toArray, List.getElem_cons_zero, List.getElem_cons_succ]
          go_wp2_with fail
          first | exact ⟨rfl, rfl, rfl⟩ | rfl
        apply wpT_read (i := 6) rfl hT rfl -- Op.move t11
        · intro w' hT'
          simp only [List.getElem_toArray, List.getElem_cons_zero, List.getElem_cons_succ]
          go_wp2_with fail
          first | exact ⟨rfl, rfl, rfl⟩ | rfl
        apply wpT_read (i := 7) rfl hT rfl -- Op.slice 41 t62 (some t63) none none
        · intro w' hT'
          simp only [List.getElem_toArray, List.getElem_cons_zero, List.getElem_cons_succ]
          go_wp2_with (first
            | (refine slice_cut rfl (.tmp 62) (.tmp 63) 41 rfl 5 undBytes sizeU8B .i64 Ab q cb n rfl rfl hnq ?_; rw [hA3.out])
            | fail)
          first | exact ⟨rfl, rfl, rfl⟩ | rfl
        refine wpT_act (i := 8) rfl rfl ?_ -- Op.call { builtin append, args := #[t61, t64], argTypes := #[41, 41]
        simp only [List.getElem_toArray, List.getElem_cons_zero, List.getElem_cons_succ]
        go_wp2_with (first
          | (at_builtin; refine app_ints rfl (.tmp 61) (.tmp 64) 41 rfl 5 .u8 1 undBytes infoU8 (.slice A2 m c2) (laid xb f n bs) rfl (hvb2.out ▸ HO3.out.drew) A3 (q - n) (cb - n) (bs.drop n) rfl (by rw [List.length_drop, hq]) hA4.out hrd4.out (by rw [HLX.out, hm.out, List.length_drop, hq]; omega) (by rw [HLX.out, hm.out, List.length_drop, hq]; omega) ?_; intro v6 w6 hv6 hg6 hl6)
          | fail)
        rw [hlp.out] at hv6
        rw [← hvb2.out] at hg6 hl6
        have hs6 := HB4.out.drew.grown hg6 hne3.symm
        have hT := hg6.cell hT hne3.symm
        have c336 := hT
        have f336 := hs6.frozen 33
        obtain ⟨A6, c6, hv6e, _, _, _⟩ := hv6.parts
        obtain ⟨n6, hn6⟩ : ∃ n6, Hd ((putB xb f bs).length = n6) := ⟨_, ⟨rfl⟩⟩
        rw [hn6.out] at hv6e
        subst hv6e
        first | refine ⟨rfl, rfl, hT, ?_⟩ | (show _ ∧ _; refine ⟨hT, ?_⟩) | skip
        apply wpT_read (i := 9) rfl hT rfl -- Op.nilCheck t57
        · intro w' hT'
          simp only [List.getElem_toArray, List.getElem_cons_zero, List.getElem_cons_succ]
          go_wp2_with fail
          first | exact ⟨rfl, rfl, rfl⟩ | rfl
        apply wpT_read (i := 10) rfl hT rfl -- Op.fieldAddr 62 t66 2
        · intro w' hT'
          simp only [List.getElem_toArray, List.getElem_cons_zero, List.getElem_cons_succ]
          go_wp2_with fail
          first | exact ⟨rfl, rfl, rfl⟩ | rfl
        refine wpT_tot (fun w' => True) (i := 11) rfl rfl (by kernel_rfl) ?_ -- Op.store 41 t67 t65
        simp only [List.getElem_toArray, List.getElem_cons_zero, List.getElem_cons_succ]
        go_wp2_with fail
        have hT : True := trivial
        obtain ⟨w7, hw7⟩ : ∃ w7, Hd (w7 = w6.setCell ⟨g, 33, none⟩ (.slice A6 n6 c6)) := ⟨_, ⟨rfl⟩⟩
        try rw [← hw7.out]
        have hb7 : Blk w7 g 62 (itemC { x2 with b := putB xb f bs } (.slice A6 n6 c6)) := by rw [← itemC_b x2 vb2 _ hxl2, hw7.out]; exact hs6.set 33 _
        have hv7 : Own w7 0 5 .u8 (.slice A6 n6 c6) (putB xb f bs) := by rw [hw7.out]; exact hv6.setOther (by simp; exact fun he => hv6.ne_blk hs6 (by decide) he.symm) _
        have c337 : w7.cell? ⟨g, 33, none⟩ = some (.slice A6 n6 c6) := by rw [hb7.cell]; exact itemC_at _ _ hxl2 1
        first | refine ⟨rfl, rfl, hT, ?_⟩ | (show _ ∧ _; refine ⟨hT, ?_⟩) | skip
        refine wpT_end ?_
        try dsimp only

        go_wp2_with fail
        refine bodyPost_ret (results_tmp2 rfl _ _ rfl rfl) rfl ?_
        have hlen6 : n6 = (putB x.b f bs).length := by rw [← hn6.out, hbs.out]
        refine ⟨by rw [hlen6]; rfl, ?_⟩
        obtain ⟨F9, F29, hst9, hsub9⟩ := HH.out w7 { x2 with b := putB xb f bs } (.slice A6 n6 c6) hb7 hxl2 hv7 (fun k hk => by
          rcases hl6 with h4 | h4
          · rw [h4] at hk; exact .inl hk
          · rw [h4] at hk; injection hk with hk; have := HU3.out.size; simp only [World.drew] at hk; exact .inr (by omega)) (fun k hk hkg hkb => by
          have hkl := hst.lt k hk
          have hkl3 : k < w3.heap.size := Nat.lt_of_lt_of_le hkl HU3.out.size
          rw [hw7.out, Below.heap_setCell _ _ _ _ hkg]
          exact (hg6.block k hkl3 (fun he => hkb he.symm)).trans (HU3.out.block k hkl (fun he => hkb he)))
        have hfin : ((touch id st.l).set (posOf id st.l) { x2 with b := putB xb f bs }) = st.l.set (posOf id st.l) { x with age := 0, b := putB x.b f bs } := by
          rw [HT.out, List.set_set, HX2.out, hbs.out]
        refine ⟨F9, v, vs, F29, hfin ▸ hst9, hsub2.trans hsub9 hsz2, ?_⟩
        have hu67 : Upd (fun j => j = g) w6 w7 := by
          rw [hw7.out]; exact Upd.setCell w6 ⟨g, 33, none⟩ (.slice A6 n6 c6)
        have hu23 : Upd F' w2 w7 := ((HU3.out.drew.mono (G := F') (fun j _ hj => HFB.out j hj)).trans (w2 := w6) ((Upd.of_grown hg6).mono (G := F') (fun j _ hj => HFB.out j hj)) (fun j _ hj => hj)).trans hu67 (fun j _ he => by subst he; exact hFg2)
        exact hu2.trans hu23 (fun j hj hf => (hsub2 j hf).resolve_right (by omega))
  · have HT := hid (touch_none (id := id) (l := st.l) hk)
    have hsl := h.star.length
    have hr := hid (show vs.getD (posOf id st.l) (.pointer none) = .pointer none by rw [List.getD_eq_getElem?_getD, List.getElem?_eq_none (by omega)]; rfl)
    have hgo := hid (putOf_none (off := off) (bs := bs) hk)
    have hpl := hid (putL_err (id := id) (off := off) (bs := bs) (l := st.l) (by rw [hgo.out]; simp))
    rw [hgo.out, hpl.out]
    clear hk hsl h
    go_enter Tryd.func19, Tryd.ntmps19
    go_wp2_with (first
      | (refine box_blk rfl 30 _ rfl _ rfl (ints .u8 id) rfl ?_; intro gb w1 hgb hbb hB1 hs1
         clear hgb hs1)
      | (refine load_blk rfl 30 _ rfl gb rfl 30 _ hbb 32 5 arrHash (by simp [ints, HI.out]) infoHash ?_)
      | (go_at_call 27; refine (named_calls id (H.out.below hB1) HI.out HLEN.out).mono ?_
         rintro e w2 ⟨he, ⟨F', F2', hst, hsub⟩, hup⟩
         rw [hr.out] at he
         subst he
         have hu2 := (Upd.of_below hB1 F).trans hup (fun j _ hj => hj)
         have hsub2 : Sub F' F w := fun k hk => (hsub k hk).imp (fun h => h) (fun h => by have := hB1.size; omega)
         have e13 := (hE.below (hu2.below hBw hF)).errs.cell 13 (by omega)
         simp only [globs, List.getD_cons_zero, List.getD_cons_succ] at e13
         clear hbb)
      | fail)
    go_quiet (fail)
    go_wp2_with fail
    refine bodyPost_ret (results_tmp2 rfl _ _ rfl rfl) rfl ?_
    exact ⟨rfl, F', v, vs, F2', hst.below (below_drewN (Below.refl _ _) _), hsub2, hu2.drewN _⟩
end Go.Proofs.YtinpilfnnmkpoaaDoor
