import Derived.Deep.MidRow
import Derived.Laws.CopyOwn
import Derived.ArgAppend
import Derived.Test.YtlikinglgegclaaDoorProg
import Derived.StillTailTactics
import Derived.Deep.QuietTactic
import Derived.BigQuiet
import Derived.Laws.Closers25b
import Derived.Test.YtlikinglgegclaaDoorMgDL0
set_option linter.unusedSimpArgs false
set_option linter.unusedVariables false
/- A region that draws its order, walked once in the order of its text: what reads yields the same wherever a fact T holds of the world; what acts stands in a chain, and keeps T. -/
namespace Go.Cour
/-- Operations that read and no more. -/
def readK : Op → Bool
  | .move _ | .assign _ | .pick _ _ _ | .build _ _ | .load _ _ | .nilCheck _ | .binOp _ _ _ _ _ | .unOp _ _ _ | .makeInterface _ _ | .makeFunc _ _ _ | .fieldAddr _ _ _ | .field _ _ _ | .indexAddr _ _ _ | .index _ _ _ | .extract _ _ | .slice _ _ _ _ _ => true
  | .call c => match c.callee with
    | .builtin .len | .builtin .cap | .builtin .min | .builtin .max => true
    | _ => false
  | .convert _ d _ => d != 24
  | .typeAssert _ _ _ _ => true
  | _ => false
theorem andThen_value {α : Type} {r : Result α} {f : α → Value} {n : Next} {w' : World} (h : r.andThen (fun x w => .ok (Next.value (f x)) w) = .ok n w') : ∃ u, n = .value u := by
  cases r with
  | ok x w => simp only [Result.andThen_ok] at h; injection h with h _; exact ⟨_, h.symm⟩
  | halt x w => simp [Result.andThen] at h
theorem andThen_any {α : Type} {r : Result α} {f : α → World → Result Next} {n : Next} {w' : World} (hf : ∀ x w n w', f x w = .ok n w' → ∃ u, n = .value u) (h : r.andThen f = .ok n w') : ∃ u, n = .value u := by
  cases r with
  | ok x w => exact hf x w n w' h
  | halt x w => simp [Result.andThen] at h
theorem readK_value {P : Program} {o : Oper} {ρ : Operand → Value} {w w' : World} {n : Next} (hk : readK o.op = true) (h : (execOp ρ o).run P w = .ok n w') : ∃ u, n = .value u := by
  unfold execOp at h
  cases hop : o.op <;> simp only [hop, readK, Bool.false_eq_true] at hk h
  case move x => simp at h; exact ⟨_, h.1.symm⟩
  case assign x => simp at h; exact ⟨_, h.1.symm⟩
  case nilCheck x =>
    split at h
    · simp [runtimePanic] at h
    · simp [runtimePanic] at h
    · simp [runtimePanic] at h
    · split at h
      · simp [runtimePanic] at h
      · simp only [Sem.run_bind] at h
        refine andThen_any (fun x w n w' h => ?_) h
        refine andThen_any (fun x w n w' h => ?_) h
        split at h
        · simp [Go.unsupported] at h
        · simp at h; exact ⟨_, h.1.symm⟩
      · simp at h; exact ⟨_, h.1.symm⟩
    · simp at h; exact ⟨_, h.1.symm⟩
  case call c =>
    cases hc : c.callee with
    | value f => simp [hc] at hk
    | invoke r m => simp [hc] at hk
    | builtin b =>
      simp only [hc] at hk
      simp only [resolve, hc, invoke, Sem.run_bind, Sem.run_pure, Result.andThen_ok] at h
      cases b <;> simp at hk <;> simp only [builtin, Sem.run_bind, Sem.run_pure] at h <;> exact andThen_value h
  all_goals (simp only [Sem.run_bind, Sem.run_pure] at h; exact andThen_value h)
theorem put_put_iff (a : Act) {d e : Option Tmp} (x u v : Value) (h : ∀ t, d = some t → e ≠ some t) : (a.put d x).put e u = (a.put d x).put e v ↔ a.put e u = a.put e v := by
  cases e with
  | none => simp [Act.put]
  | some t =>
    cases d with
    | none => simp [Act.put]
    | some s =>
      have hne : s ≠ t := fun he => h s rfl (he ▸ rfl)
      constructor
      · intro h1
        by_cases ht : t < a.tmps.size
        · have h2 := congrArg (fun b : Act => b.tmps[t]?) h1
          have h3 : t < (a.put (some s) x).tmps.size := by rw [put_size]; exact ht
          simp only [put_same _ _ _ h3, Option.some.injEq] at h2
          rw [h2]
        · simp [Act.put, Array.setIfInBounds, ht]
      · intro h1
        rw [Act.put_comm a x u h, Act.put_comm a x v h, h1]
section
variable (P : Program) (ops : Array Oper) (N : Act → World → Prop)
/-- An operation that reads: what the act is behind it; the world is as it was. -/
def Rd1 (o : Oper) (a : Act) (w : World) (v : Value) : Prop :=
  if Region.wanted o (yielded ops a.tmps) then ∃ u, (execOp a.eval o).run P w = .ok (.value u) w ∧ a.put o.dst u = a.put o.dst v
  else a.put o.dst undef = a.put o.dst v
/-- An operation that acts: what holds of its value, and of the world behind it. -/
def V1 (o : Oper) (a : Act) (w : World) (K : Value → World → Prop) : Prop :=
  if Region.wanted o (yielded ops a.tmps) then
    match (execOp a.eval o).run P w with
    | .ok (.value v) w' => K v w'
    | .ok .skip w' => K undef w'
    | .ok (.enter f args) w' => Calls P f args w' fun e w'' => ∃ v, e = .returned v ∧ K v w''
    | .ok (.row row args) w' => Rows P row args w' K
    | _ => False
  else K undef w
theorem waitsT_more {ops : Array Oper} : ∀ (n k i : Nat), waitsT ops n k i = true → waitsT ops (n + 1) k i = true
  | 0, k, i, h => by
    unfold waitsT at h ⊢
    rw [h]; rfl
  | n + 1, k, i, h => by
    unfold waitsT at h ⊢
    rw [Bool.or_eq_true] at h ⊢
    refine h.imp (fun h => h) fun h => ?_
    cases ho : ops[k]? with
    | none => simp [ho] at h
    | some o =>
      simp only [ho] at h ⊢
      obtain ⟨e, he, hb⟩ := Array.any_eq_true'.1 h
      refine Array.any_eq_true'.2 ⟨e, he, ?_⟩
      simp only [Bool.and_eq_true] at hb ⊢
      exact ⟨hb.1, waitsT_more n e.on i hb.2⟩
theorem waitsT_le {ops : Array Oper} {k i : Nat} (n : Nat) : ∀ m, waitsT ops n k i = true → waitsT ops (n + m) k i = true
  | 0, h => h
  | m + 1, h => waitsT_more (n + m) k i (waitsT_le n m h)
/-- Whom operation n waits for, as a number's bits; l: those ahead, the last one first. -/
def maskOf (ops : Array Oper) (n : Nat) (l : List Nat) : Nat := match ops[n]? with
  | none => 0
  | some o => o.after.toList.foldl (fun m e => if Region.binds .any e then m ||| (2 ^ e.on) ||| (if e.on < n then l.getD (n - 1 - e.on) 0 else 0) else m) 0
def reachR (ops : Array Oper) : Nat → List Nat
  | 0 => []
  | n + 1 => maskOf ops n (reachR ops n) :: reachR ops n
theorem mask_bit {n p : Nat} {l : List Nat} : ∀ {es : List Edge} {m : Nat}, (es.foldl (fun m e => if Region.binds .any e then m ||| (2 ^ e.on) ||| (if e.on < n then l.getD (n - 1 - e.on) 0 else 0) else m) m).testBit p = true →
    m.testBit p = true ∨ ∃ e ∈ es, Region.binds .any e = true ∧ (e.on = p ∨ (e.on < n ∧ (l.getD (n - 1 - e.on) 0).testBit p = true))
  | [], m, h => .inl h
  | e :: es, m, h => by
    rw [List.foldl_cons] at h
    rcases mask_bit h with h1 | ⟨e', he', h1⟩
    · by_cases hb : Region.binds .any e = true
      · rw [if_pos hb, Nat.testBit_or, Nat.testBit_or, Bool.or_eq_true, Bool.or_eq_true] at h1
        rcases h1 with (h1 | h1) | h1
        · exact .inl h1
        · rw [Nat.testBit_two_pow] at h1
          exact .inr ⟨e, List.mem_cons_self .., hb, .inl (by simpa using h1)⟩
        · by_cases hlt : e.on < n
          · rw [if_pos hlt] at h1
            exact .inr ⟨e, List.mem_cons_self .., hb, .inr ⟨hlt, h1⟩⟩
          · rw [if_neg hlt] at h1; simp at h1
      · rw [if_neg hb] at h1; exact .inl h1
    · exact .inr ⟨e', List.mem_cons_of_mem _ he', h1⟩
theorem reach_spec (ops : Array Oper) : ∀ (n i : Nat), i < n → ∀ p, ((reachR ops n).getD (n - 1 - i) 0).testBit p = true → waitsT ops (i + 1) i p = true
  | 0, i, h, _, _ => absurd h (Nat.not_lt_zero _)
  | n + 1, i, h, p, hb => by
    by_cases hin : i = n
    · subst hin
      have h0 : i + 1 - 1 - i = 0 := by omega
      rw [h0] at hb
      have hb' : (maskOf ops i (reachR ops i)).testBit p = true := hb
      unfold maskOf at hb'
      cases ho : ops[i]? with
      | none => simp [ho] at hb'
      | some o =>
        simp only [ho] at hb'
        rcases mask_bit hb' with h1 | ⟨e, he, hbi, h1⟩
        · simp at h1
        · unfold waitsT
          rw [Bool.or_eq_true]
          refine .inr ?_
          simp only [ho]
          refine Array.any_eq_true'.2 ⟨e, by simpa using he, ?_⟩
          simp only [Bool.and_eq_true]
          refine ⟨hbi, ?_⟩
          rcases h1 with h1 | ⟨h1, h2⟩
          · rw [h1]
            cases i <;> unfold waitsT <;> simp
          · have h3 := reach_spec ops i e.on h1 p h2
            have h4 := waitsT_le (e.on + 1) (i - (e.on + 1)) h3
            rwa [show e.on + 1 + (i - (e.on + 1)) = i by omega] at h4
    · have h1 : n + 1 - 1 - i = (n - 1 - i) + 1 := by omega
      rw [h1] at hb
      exact reach_spec ops n i (by omega) p hb
/-- Operation i waits for operation p. -/
def dirW (ops : Array Oper) (i p : Nat) : Bool := decide (i < ops.size) && decide (i < 199) && ((reachR ops ops.size).getD (ops.size - 1 - i) 0).testBit p
theorem dirW_waits {ops : Array Oper} {i p : Nat} (h : dirW ops i p = true) : waitsT ops 200 i p = true := by
  unfold dirW at h
  simp only [Bool.and_eq_true, decide_eq_true_eq] at h
  have h1 := reach_spec ops ops.size i h.1.1 p h.2
  have h2 := waitsT_le (i + 1) (200 - (i + 1)) h1
  rwa [show i + 1 + (200 - (i + 1)) = 200 by omega] at h2
/-- An operation that acts, and stands in one order with all others. -/
def totB (ops : Array Oper) (i : Nat) : Bool := (List.range ops.size).all fun j => (decide (i ≤ j) || dirW ops i j) && (decide (j ≤ i) || dirW ops j i)
/-- The operations walked in the order of the text. -/
def wpT : (World → Prop) → List Nat → Act → World → Prop
  | _, [], a, w => N a w
  | T, i :: rest, a, w => match ops[i]? with
    | none => False
    | some o =>
      if readK o.op then ∃ v, (∀ w', T w' → Rd1 P ops o a w' v) ∧ wpT T rest (a.put o.dst v) w
      else V1 P ops o a w fun u w' => if totB ops i then ∃ T', T' w' ∧ wpT T' rest (a.put o.dst u) w' else T w' ∧ wpT T rest (a.put o.dst u) w'
end
section
variable {P : Program} {ops : Array Oper} {T : World → Prop} {N : Act → World → Prop}
theorem Rd1.put {o : Oper} {a : Act} {w : World} {v : Value} {d : Option Tmp} (x : Value) (h1 : ∀ t, d = some t → t ∉ o.looksAt ops) (h2 : ∀ t, d = some t → o.dst ≠ some t) (hs : ∀ cs b, o.op ≠ .select cs b) : Rd1 P ops o (a.put d x) w v ↔ Rd1 P ops o a w v := by
  unfold Rd1
  rw [wanted_put o a d x h1, execOp_put o hs a d x h1]
  simp only [put_put_iff a x _ _ h2]
theorem V1.put {o : Oper} {a : Act} {w : World} {K : Value → World → Prop} {d : Option Tmp} (x : Value) (h1 : ∀ t, d = some t → t ∉ o.looksAt ops) (hs : ∀ cs b, o.op ≠ .select cs b) : V1 P ops o (a.put d x) w K ↔ V1 P ops o a w K := by
  unfold V1
  rw [wanted_put o a d x h1, execOp_put o hs a d x h1]
theorem V1.mono {o : Oper} {a : Act} {w : World} {K K' : Value → World → Prop} (h : V1 P ops o a w K) (hk : ∀ u w', K u w' → K' u w') : V1 P ops o a w K' := by
  unfold V1 at *
  split at h <;> rename_i hw
  · rw [if_pos hw]
    revert h
    cases (execOp a.eval o).run P w with
    | halt x w' => exact fun h => h
    | ok n w' =>
      cases n <;> intro h <;> first | exact hk _ _ h | exact h | skip
      case enter f args => exact Calls.mono h fun e w'' ⟨v, he, hv⟩ => ⟨v, he, hk _ _ hv⟩
      case row row args => exact Rows.mono h fun u w'' hu => hk _ _ hu
  · rw [if_neg hw]; exact hk _ _ h
theorem V1.ex {o : Oper} {a : Act} {w : World} {K : Value → World → Prop} (h : V1 P ops o a w K) : ∃ u w', K u w' := by
  unfold V1 at h
  split at h
  · revert h
    cases (execOp a.eval o).run P w with
    | halt x w' => exact fun h => h.elim
    | ok n w' =>
      cases n <;> intro h <;> first | exact ⟨_, _, h⟩ | exact h.elim | skip
      case enter f args => obtain ⟨e, w'', fr, ⟨v, _, hv⟩, _⟩ := h []; exact ⟨v, w'', hv⟩
      case row row args => obtain ⟨v, w'', hv, _⟩ := h default []; exact ⟨v, w'', hv⟩
  · exact ⟨_, _, h⟩
theorem Rd1.det {o : Oper} {a : Act} {w : World} {u v : Value} (h : Rd1 P ops o a w u) (k : Rd1 P ops o a w v) : a.put o.dst u = a.put o.dst v := by
  unfold Rd1 at *
  split at h <;> rename_i hw
  · rw [if_pos hw] at k
    obtain ⟨x, h1, h2⟩ := h
    obtain ⟨y, h3, h4⟩ := k
    rw [h1] at h3
    injection h3 with h3
    injection h3 with h3
    subst h3
    exact h2.symm.trans h4
  · rw [if_neg hw] at k; exact h.symm.trans k
def noSel (o : Oper) : Prop := ∀ cs b, o.op ≠ .select cs b
/-- What may go ahead goes ahead. -/
theorem wpT_pull (i : Nat) (o : Oper) (post : List Nat) (hi : ops[i]? = some o) (hso : noSel o) : ∀ (pre : List Nat) (a : Act) (w : World), T w → (pre ≠ [] → totB ops i = false) → (∀ j ∈ pre, totB ops j = false ∧ ∃ p, ops[j]? = some p ∧ p.apart ops o = true ∧ (readK p.op || readK o.op) = true ∧ noSel p) → wpT P ops N T (pre ++ i :: post) a w →
    if readK o.op then ∃ v, (∀ w', T w' → Rd1 P ops o a w' v) ∧ wpT P ops N T (pre ++ post) (a.put o.dst v) w
    else V1 P ops o a w fun u w' => if totB ops i then ∃ T', T' w' ∧ wpT P ops N T' (pre ++ post) (a.put o.dst u) w' else T w' ∧ wpT P ops N T (pre ++ post) (a.put o.dst u) w'
  | [], a, w, _, _, _, h => by simpa only [List.nil_append, wpT, hi] using h
  | j :: pre, a, w, hT, hti, hp, h => by
    obtain ⟨htj, p, hj, hap, hrd, hsp⟩ := hp j (List.mem_cons_self ..)
    have hti' := hti (by simp)
    obtain ⟨s1, s2, s3⟩ := Oper.apart_spec hap
    have s4 : ∀ t, o.dst = some t → p.dst ≠ some t := fun t ht hpt => s2 t hpt ht
    have ih := fun a w hT => wpT_pull i o post hi hso pre a w hT (fun _ => hti') (fun q hq => hp q (List.mem_cons_of_mem _ hq))
    simp only [List.cons_append, wpT, hj, htj, hti', Bool.false_eq_true, if_false] at h ih ⊢
    by_cases hkp : readK p.op = true
    · rw [if_pos hkp] at h
      obtain ⟨vp, hvp, h⟩ := h
      have h2 := ih _ _ hT h
      by_cases hko : readK o.op = true
      · rw [if_pos hko] at h2 ⊢
        obtain ⟨v, hv, h3⟩ := h2
        refine ⟨v, fun w' hw' => (Rd1.put vp s1 s2 hso).1 (hv w' hw'), ?_⟩
        rw [if_pos hkp]
        refine ⟨vp, fun w' hw' => (Rd1.put v s3 s4 hsp).2 (hvp w' hw'), ?_⟩
        rw [← Act.put_comm a vp v s2]; exact h3
      · rw [if_neg hko] at h2 ⊢
        refine ((V1.put vp s1 hso).1 h2).mono fun u w' ⟨h3, h4⟩ => ⟨h3, ?_⟩
        rw [if_pos hkp]
        refine ⟨vp, fun w'' hw'' => (Rd1.put u s3 s4 hsp).2 (hvp w'' hw''), ?_⟩
        rw [← Act.put_comm a vp u s2]; exact h4
    · have hko : readK o.op = true := by
        rw [Bool.or_eq_true] at hrd
        exact hrd.resolve_left hkp
      rw [if_neg hkp] at h
      rw [if_pos hko]
      have h2 : V1 P ops p a w fun u w' => T w' ∧ ∃ v, (∀ w'', T w'' → Rd1 P ops o a w'' v) ∧ wpT P ops N T (pre ++ post) ((a.put p.dst u).put o.dst v) w' := h.mono fun u w' ⟨h3, h4⟩ => by
        have h5 := ih _ _ h3 h4
        rw [if_pos hko] at h5
        obtain ⟨v, hv, h6⟩ := h5
        exact ⟨h3, v, fun w'' hw'' => (Rd1.put u s1 s2 hso).1 (hv w'' hw''), h6⟩
      obtain ⟨u0, w0, hT0, v0, hv0, _⟩ := h2.ex
      refine ⟨v0, hv0, ?_⟩
      rw [if_neg hkp]
      refine (V1.put v0 s3 hsp).2 (h2.mono fun u w' ⟨h3, v, hv, h4⟩ => ⟨h3, ?_⟩)
      rw [Act.put_comm a u v s2, (hv w0 hT0).det (hv0 w0 hT0)] at h4
      exact h4
/-- What the law asks of the region's text. -/
def chkTOne (ops : Array Oper) (i : Nat) : Bool :=
  match ops[i]? with
  | none => true
  | some o => (o.after.all fun e => !Region.binds .any e || decide (e.on < i)) && !isSelect o.op &&
    (List.range i).all fun p => dirW ops i p || (match ops[p]? with | some q => q.apart ops o && (readK q.op || readK o.op) | none => true)
def chkT (ops : Array Oper) : Bool := (List.range ops.size).all (chkTOne ops)
structure ChkT (ops : Array Oper) : Prop where
  back : ∀ (i : Nat) (o : Oper), ops[i]? = some o → ∀ e ∈ o.after, Region.binds .any e = true → e.on < i
  sel : ∀ (i : Nat) (o : Oper), ops[i]? = some o → noSel o
  ahead : ∀ (i : Nat) (o : Oper), ops[i]? = some o → ∀ p q, p < i → ops[p]? = some q → waitsT ops 200 i p = true ∨ (q.apart ops o = true ∧ (readK q.op || readK o.op) = true)
theorem chkT_spec (h : chkT ops = true) : ChkT ops := by
  have h1 : ∀ i o, ops[i]? = some o → ((o.after.all fun e => !Region.binds .any e || decide (e.on < i)) = true ∧ isSelect o.op = false) ∧
    ((List.range i).all fun p => dirW ops i p || (match ops[p]? with | some q => q.apart ops o && (readK q.op || readK o.op) | none => true)) = true := fun i o ho => by
    have := List.all_eq_true.1 h i (List.mem_range.2 (Array.getElem?_eq_some_iff.1 ho).1)
    unfold chkTOne at this
    simp only [ho, Bool.and_eq_true, Bool.not_eq_true'] at this
    exact this
  refine ⟨fun i o ho e he hb => ?_, fun i o ho cs b hs => ?_, fun i o ho p q hp hq => ?_⟩
  · have := Array.all_eq_true'.1 (h1 i o ho).1.1 e he
    simpa [hb] using this
  · have := (h1 i o ho).1.2
    rw [hs] at this
    simp [isSelect] at this
  · have := List.all_eq_true.1 (h1 i o ho).2 p (List.mem_range.2 hp)
    simp only [hq, Bool.or_eq_true, Bool.and_eq_true] at this
    rcases this with h2 | ⟨h2, h3⟩
    · exact .inl (dirW_waits h2)
    · exact .inr ⟨h2, by simpa using h3⟩
/-- Whoever stands listed has all that it waits for listed. -/
def Closed (ops : Array Oper) (listed : Array Bool) : Prop := ∀ (j : Nat) (oj : Oper), ops[j]? = some oj → listed.getD j false = true → ∀ e ∈ oj.after, Region.binds .any e = true → listed.getD e.on false = true
theorem Closed.waits {listed : Array Bool} (hc : Closed ops listed) (hl : listed.size = ops.size) : ∀ (n k p : Nat), waitsT ops n k p = true → k < ops.size → listed.getD k false = true → listed.getD p false = true
  | 0, k, p, hw, _, hk => by
    have : k = p := by simpa [waitsT] using hw
    rw [← this]; exact hk
  | n + 1, k, p, hw, hlt, hk => by
    unfold waitsT at hw
    rw [Bool.or_eq_true] at hw
    rcases hw with hw | hw
    · have : k = p := by simpa using hw
      rw [← this]; exact hk
    · cases ho : ops[k]? with
      | none => simp [ho] at hw
      | some o =>
        simp only [ho] at hw
        obtain ⟨e, he, hb⟩ := Array.any_eq_true'.1 hw
        simp only [Bool.and_eq_true] at hb
        have h2 := hc k o ho hk e he hb.1
        have h3 : e.on < ops.size := by
          rcases Nat.lt_or_ge e.on ops.size with h | h
          · exact h
          · have : listed.getD e.on false = false := by simp [Array.getD, show ¬ e.on < listed.size by omega]
            rw [this] at h2; cases h2
        exact hc.waits hl n e.on p hb.2 h3 h2
def unl (listed : Array Bool) (j : Nat) : Bool := !(listed.getD j true)
def rem (ops : Array Oper) (listed : Array Bool) : List Nat := (List.range ops.size).filter (unl listed)
theorem filter_ne_mid {s t : List Nat} {i : Nat} (h : (s ++ i :: t).Pairwise (· < ·)) : (s ++ i :: t).filter (fun j => j != i) = s ++ t := by
  rw [List.filter_append, List.filter_cons]
  have h1 : ∀ j ∈ s, j < i := fun j hj => (List.pairwise_append.1 h).2.2 j hj i (List.mem_cons_self ..)
  have h2 : ∀ j ∈ t, i < j := (List.pairwise_cons.1 (List.pairwise_append.1 h).2.1).1
  simp only [bne_self_eq_false, Bool.false_eq_true, if_false]
  rw [List.filter_eq_self.2 (fun j hj => by simp; have := h1 j hj; omega), List.filter_eq_self.2 (fun j hj => by simp; have := h2 j hj; omega)]
theorem totB_spec {i : Nat} (h : totB ops i = true) : ∀ j, j < ops.size → (j < i → waitsT ops 200 i j = true) ∧ (i < j → waitsT ops 200 j i = true) := fun j hj => by
  have := List.all_eq_true.1 h j (List.mem_range.2 hj)
  simp only [Bool.and_eq_true, Bool.or_eq_true, decide_eq_true_eq] at this
  exact ⟨fun h1 => dirW_waits (this.1.resolve_left (by omega)), fun h1 => dirW_waits (this.2.resolve_left (by omega))⟩
theorem wpAny_T {Q : Exit → Act → World → Prop} (hN : ∀ a w, N a w → Q .normal a w) (hc : ChkT ops) : ∀ (fuel : Nat) (listed : Array Bool) (T : World → Prop) (a : Act) (w : World), T w → listed.size = ops.size → Closed ops listed → (rem ops listed).length ≤ fuel →
    wpT P ops N T (rem ops listed) a w → wpAny P .any ops Q fuel listed a w := by
  have fin : ∀ (listed : Array Bool) (T : World → Prop) (a : Act) (w : World), listed.size = ops.size → Region.ready .any ops listed = [] → wpT P ops N T (rem ops listed) a w → Q .normal a w := fun listed T a w hl hr h => by
    have hall : ∀ n j, j < n → j < ops.size → listed.getD j false = true := fun n => by
      induction n with
      | zero => intro j hj; omega
      | succ n ih =>
        intro j hj hlt
        by_cases hjn : j < n
        · exact ih j hjn hlt
        · have hjn' : j = n := by omega
          subst hjn'
          cases hlj : listed.getD j false with
          | true => rfl
          | false =>
            have hun := getD_in (by rw [hl]; exact hlt) hlj
            have ho : ops[j]? = some ops[j] := Array.getElem?_eq_getElem hlt
            have : j ∈ Region.ready .any ops listed := mem_ready.2 ⟨hun, ops[j], ho, fun e he hb => ih e.on (hc.back j _ ho e he hb) (by have := hc.back j _ ho e he hb; omega)⟩
            rw [hr] at this
            cases this
    have hre : rem ops listed = [] := List.filter_eq_nil_iff.2 fun j hj => by
      have := hall (j + 1) j (by omega) (List.mem_range.1 hj)
      unfold unl
      cases h2 : listed.getD j true with
      | true => simp
      | false => rw [getD_both h2] at this; cases this
    rw [hre] at h
    exact hN _ _ h
  intro fuel
  induction fuel with
  | zero =>
    intro listed T a w hT hl hcl hf h
    have hr : Region.ready .any ops listed = [] := by
      rcases hx : Region.ready .any ops listed with _ | ⟨i, l⟩
      · rfl
      · have hm : i ∈ Region.ready .any ops listed := by rw [hx]; exact List.mem_cons_self ..
        obtain ⟨hun, o, ho, _⟩ := mem_ready.1 hm
        have h1 : i ∈ rem ops listed := List.mem_filter.2 ⟨List.mem_range.2 (Array.getElem?_eq_some_iff.1 ho).1, by simp [unl, hun]⟩
        have h2 := List.length_eq_zero_iff.1 (Nat.le_zero.1 hf)
        rw [h2] at h1
        cases h1
    exact ⟨hr, fin listed T a w hl hr h⟩
  | succ fuel ih =>
    intro listed T a w hT hl hcl hf h
    refine ⟨fun hr => fin listed T a w hl hr h, fun i hir => ?_⟩
    obtain ⟨hun, o, ho, hall⟩ := mem_ready.1 hir
    have hlt := (Array.getElem?_eq_some_iff.1 ho).1
    have him : i ∈ rem ops listed := List.mem_filter.2 ⟨List.mem_range.2 hlt, by simp [unl, hun]⟩
    obtain ⟨s, t, hst⟩ := List.append_of_mem him
    have hpw : (s ++ i :: t).Pairwise (· < ·) := by
      rw [← hst]; exact List.Pairwise.filter _ List.pairwise_lt_range
    have hrem : rem ops (listed.setIfInBounds i true) = s ++ t := by
      rw [← filter_ne_mid hpw, ← hst]
      unfold rem
      rw [List.filter_filter]
      refine List.filter_congr fun j hj => ?_
      unfold unl
      by_cases hij : i = j
      · subst hij
        have h0 : i < listed.size := by rw [hl]; exact hlt
        simp [h0]
      · rw [getD_set_ne true hij]
        simp [Ne.symm hij]
    have hlate : ∀ k ∈ s, waitsT ops 200 i k = true → False := fun k hk hw => by
      have hki : k < i := (List.pairwise_append.1 hpw).2.2 k hk i (List.mem_cons_self ..)
      have hku : k ∈ rem ops listed := by rw [hst]; exact List.mem_append_left _ hk
      have hkun : listed.getD k true = false := by
        have := (List.mem_filter.1 hku).2
        simpa [unl] using this
      have : waitsT ops 200 i k = true := hw
      unfold waitsT at this
      rw [Bool.or_eq_true] at this
      rcases this with h3 | h3
      · have : i = k := by simpa using h3
        omega
      · simp only [ho] at h3
        obtain ⟨e, he, hb⟩ := Array.any_eq_true'.1 h3
        simp only [Bool.and_eq_true] at hb
        have h4 := hcl.waits hl 199 e.on k hb.2 (by have := hc.back i o ho e he hb.1; omega) (hall e he hb.1)
        rw [getD_both hkun] at h4
        cases h4
    have hpre : ∀ j ∈ s, totB ops j = false ∧ ∃ p, ops[j]? = some p ∧ p.apart ops o = true ∧ (readK p.op || readK o.op) = true ∧ noSel p := fun k hk => by
      have hki : k < i := (List.pairwise_append.1 hpw).2.2 k hk i (List.mem_cons_self ..)
      have hks : k < ops.size := by omega
      have hkp : ops[k]? = some ops[k] := Array.getElem?_eq_getElem hks
      refine ⟨?_, ops[k], hkp, ?_⟩
      · cases htk : totB ops k with
        | false => rfl
        | true => exact (hlate k hk ((totB_spec htk i hlt).2 hki)).elim
      · rcases hc.ahead i o ho k _ hki hkp with hw | ⟨h1, h2⟩
        · exact (hlate k hk hw).elim
        · exact ⟨h1, h2, hc.sel k _ hkp⟩
    have hti : s ≠ [] → totB ops i = false := fun hs => by
      cases hti : totB ops i with
      | false => rfl
      | true =>
        obtain ⟨k, hk⟩ := List.exists_mem_of_ne_nil s hs
        have hki : k < i := (List.pairwise_append.1 hpw).2.2 k hk i (List.mem_cons_self ..)
        exact (hlate k hk ((totB_spec hti k (by omega)).1 hki)).elim
    rw [hst] at h
    have hpull := wpT_pull i o t ho (hc.sel i o ho) s a w hT hti hpre h
    rw [← hrem] at hpull
    have hcl' : Closed ops (listed.setIfInBounds i true) := fun j oj hj hl' e he hb => by
      by_cases hij : i = j
      · subst hij
        have : oj = o := Option.some.inj (hj.symm.trans ho)
        subst this
        exact getD_set_true (hall e he hb)
      · rw [getD_set_ne false hij] at hl'
        exact getD_set_true (hcl j oj hj hl' e he hb)
    have hlen : (rem ops (listed.setIfInBounds i true)).length ≤ fuel := by
      rw [hrem]; rw [hst] at hf; simp at hf ⊢; omega
    have next : ∀ (T : World → Prop) u w', T w' → wpT P ops N T (rem ops (listed.setIfInBounds i true)) (a.put o.dst u) w' → wpAny P .any ops Q fuel (listed.setIfInBounds i true) (a.put o.dst u) w' := fun T u w' hT' h' =>
      ih _ _ _ _ hT' (by simp [hl]) hcl' hlen h'
    have nextA : ∀ u w', (if totB ops i then ∃ T', T' w' ∧ wpT P ops N T' (rem ops (listed.setIfInBounds i true)) (a.put o.dst u) w' else T w' ∧ wpT P ops N T (rem ops (listed.setIfInBounds i true)) (a.put o.dst u) w') → wpAny P .any ops Q fuel (listed.setIfInBounds i true) (a.put o.dst u) w' := fun u w' h' => by
      split at h'
      · obtain ⟨T', h1, h2⟩ := h'; exact next T' u w' h1 h2
      · exact next T u w' h'.1 h'.2
    unfold wpOp
    simp only [ho]
    by_cases hko : readK o.op = true
    · rw [if_pos hko] at hpull
      obtain ⟨v, hv, h2⟩ := hpull
      have h3 := hv w hT
      unfold Rd1 at h3
      split at h3 <;> rename_i hw
      · rw [if_pos hw]
        obtain ⟨u, h4, h5⟩ := h3
        refine .inl ?_
        unfold Oper.wp
        rw [h4]
        rw [← h5] at h2
        exact next T u w hT h2
      · rw [if_neg hw]
        rw [← h3] at h2
        exact next T _ w hT h2
    · rw [if_neg hko] at hpull
      unfold V1 at hpull
      split at hpull <;> rename_i hw
      · rw [if_pos hw]
        refine .inl ?_
        unfold Oper.wp
        revert hpull
        cases (execOp a.eval o).run P w with
        | halt x w' => exact fun h => h.elim
        | ok n w' =>
          cases n <;> intro h <;> first | exact h.elim | exact nextA _ _ h | skip
          case enter f args =>
            refine Calls.mono h fun e w'' he => ?_
            obtain ⟨v, rfl, h1⟩ := he
            exact nextA v w'' h1
          case row row args => exact Rows.mono h fun u w'' hu => nextA u w'' hu
      · rw [if_neg hw]
        exact nextA _ w hpull
/-- A region that draws its order, in the order of its text. -/
theorem wp_region_T {id : Nat} {a : Act} {w : World} {Q : Exit → Act → World → Prop} (T : World → Prop) (hm : P.follows .mixedOrders = true) (hc : chkT ops = true) (hT : T w.drew) (h : wpT P ops (fun a' w' => Q .normal a' w') T (List.range ops.size) a w.drew) : (Code.region id ops true).wp P Q a w := by
  refine wp_region_any hm (wpAny_T (N := fun a' w' => Q .normal a' w') (fun _ _ h => h) (chkT_spec hc) ops.size _ T a _ hT (by simp) ?_ ?_ ?_)
  · intro j oj _ hl; rw [getD_replicate_false] at hl; cases hl
  · exact Nat.le_trans (List.length_filter_le _ _) (by simp)
  · have h1 : rem ops (Array.replicate ops.size false) = List.range ops.size := List.filter_eq_self.2 fun j hj => by
      simp [unl, Array.getD, List.mem_range.1 hj]
    rw [h1]; exact h
/-- One that reads. -/
theorem wpT_read {i : Nat} {o : Oper} {rest : List Nat} {a A : Act} {w : World} (hi : ops[i]? = some o) (hT : T w) (hk : readK o.op = true) (h1 : ∀ w', T w' → wpList P ops (fun ex a' w'' => ex = .normal ∧ a' = A ∧ w'' = w') [o] a w') (h2 : wpT P ops N T rest A w) : wpT P ops N T (i :: rest) a w := by
  have hv : ∀ w', T w' → ∃ u, A = a.put o.dst u ∧ Rd1 P ops o a w' u := fun w' hw' => by
    have h := h1 w' hw'
    simp only [wpList] at h
    unfold Rd1
    split at h <;> rename_i hw
    · rcases h with h | ⟨_, _, _, hf, _⟩
      case inr => cases hf
      unfold Oper.wp at h
      cases hx : (execOp a.eval o).run P w' with
      | halt x w1 =>
        rw [hx] at h
        cases x <;> simp [Oper.upon] at h
      | ok n w1 =>
        obtain ⟨u, rfl⟩ := readK_value hk hx
        rw [hx] at h
        simp only [Oper.upon] at h
        obtain ⟨_, h3, h4⟩ := h
        subst h4
        exact ⟨u, h3.symm, by rw [if_pos hw]; exact ⟨u, rfl, rfl⟩⟩
    · exact ⟨undef, h.2.1.symm, by rw [if_neg hw]⟩
  obtain ⟨v, hA, _⟩ := hv w hT
  simp only [wpT, hi]
  rw [if_pos hk]
  refine ⟨v, fun w' hw' => ?_, hA ▸ h2⟩
  obtain ⟨u, hu, hr⟩ := hv w' hw'
  have he : a.put o.dst u = a.put o.dst v := hu.symm.trans hA
  unfold Rd1 at *
  split at hr <;> rename_i hw
  · rw [if_pos hw]; obtain ⟨x, h3, h4⟩ := hr; exact ⟨x, h3, h4.trans he⟩
  · rw [if_neg hw]; exact hr.trans he
theorem V1_of {o : Oper} {a : Act} {w : World} {K : Act → World → Prop} (h : wpList P ops (fun ex a' w' => ex = .normal ∧ a'.defers = a.defers ∧ K a' w') [o] a w) : V1 P ops o a w fun u w' => K (a.put o.dst u) w' := by
  simp only [wpList] at h
  unfold V1
  split at h <;> rename_i hw
  · rw [if_pos hw]
    rcases h with h | ⟨_, _, _, hf, _⟩
    case inr => cases hf
    unfold Oper.wp at h
    revert h
    cases (execOp a.eval o).run P w with
    | halt x w' => intro h; cases x <;> simp [Oper.upon] at h
    | ok n w' =>
      cases n <;> intro h <;> simp only [Oper.upon] at h ⊢ <;> first | exact h.elim | exact h.2.2 | skip
      case defer d =>
        have := h.2.1
        rw [put_defers] at this
        exact absurd (congrArg List.length this) (by simp)
      case enter f args =>
        refine Calls.mono h fun e w'' he => ?_
        cases e with
        | returned u => exact ⟨u, rfl, he.2.2⟩
        | panicked c => exact absurd he.1 (by intro h; cases h)
        | outgrown => obtain ⟨_, _, hf, _⟩ := he; cases hf
      case row row args => exact Rows.mono h fun u w'' hu => hu.2.2
  · rw [if_neg hw]; exact h.2.2
/-- One that acts. -/
theorem wpT_act {i : Nat} {o : Oper} {rest : List Nat} {a : Act} {w : World} (hi : ops[i]? = some o) (hk : readK o.op = false) (h : wpList P ops (fun ex a' w' => ex = .normal ∧ a'.defers = a.defers ∧ T w' ∧ wpT P ops N T rest a' w') [o] a w) : wpT P ops N T (i :: rest) a w := by
  simp only [wpT, hi]
  rw [if_neg (by rw [hk]; decide)]
  refine (V1_of h).mono fun u w' hu => ?_
  split
  · exact ⟨T, hu⟩
  · exact hu
/-- One that acts, in one order with all others: behind it another fact may hold. -/
theorem wpT_tot {i : Nat} {o : Oper} {rest : List Nat} {a : Act} {w : World} (T' : World → Prop) (hi : ops[i]? = some o) (hk : readK o.op = false) (ht : totB ops i = true) (h : wpList P ops (fun ex a' w' => ex = .normal ∧ a'.defers = a.defers ∧ T' w' ∧ wpT P ops N T' rest a' w') [o] a w) : wpT P ops N T (i :: rest) a w := by
  simp only [wpT, hi]
  rw [if_neg (by rw [hk]; decide)]
  refine (V1_of h).mono fun u w' hu => ?_
  rw [if_pos ht]; exact ⟨T', hu.1, hu.2⟩
theorem wpT_end {a : Act} {w : World} (h : N a w) : wpT P ops N T [] a w := h
theorem wpT_fin {Q : Exit → Act → World → Prop} {a : Act} {w : World} (h : Q .normal a w) : wpT P ops (fun a' w' => Q .normal a' w') T [] a w := h
end
end Go.Cour
/- Steps over memory that is a list of things side by side; drawn regions whose worlds stay letters. -/
namespace Go.Cour
open Go.RowKit
section
variable {P : Program} {ops : Array Oper} {N : Act → World → Prop} {T : World → Prop}
/-- A region that draws its order, from any world of which T holds. -/
theorem wp_region_L {id : Nat} {a : Act} {w : World} {Q : Exit → Act → World → Prop} (T : World → Prop) (hm : P.follows .mixedOrders = true) (hc : chkT ops = true) (hT : T w.drew) (h : ∀ w', T w' → wpT P ops (fun a' w' => Q .normal a' w') T (List.range ops.size) a w') : (Code.region id ops true).wp P Q a w :=
  wp_region_T T hm hc hT (h _ hT)
/-- Behind an operation that acts: T holds still. -/
def OnT (P : Program) (ops : Array Oper) (N : Act → World → Prop) (T : World → Prop) (rest : List Nat) (a : Act) (ex : Exit) (a' : Act) (w' : World) : Prop := ex = .normal ∧ a'.defers = a.defers ∧ T w' ∧ ∀ w'', T w'' → wpT P ops N T rest a' w''
/-- Behind one that stands in one order with all others: another fact may hold. -/
def OnX (P : Program) (ops : Array Oper) (N : Act → World → Prop) (rest : List Nat) (a : Act) (ex : Exit) (a' : Act) (w' : World) : Prop := ex = .normal ∧ a'.defers = a.defers ∧ ∃ T' : World → Prop, T' w' ∧ ∀ w'', T' w'' → wpT P ops N T' rest a' w''
theorem OnT.mk {rest : List Nat} {a a' : Act} {w' : World} (hd : a'.defers = a.defers) (h : T w') (h2 : ∀ w'', T w'' → wpT P ops N T rest a' w'') : OnT P ops N T rest a .normal a' w' := ⟨rfl, hd, h, h2⟩
theorem OnX.mk {rest : List Nat} {a a' : Act} {w' : World} (T' : World → Prop) (hd : a'.defers = a.defers) (h : T' w') (h2 : ∀ w'', T' w'' → wpT P ops N T' rest a' w'') : OnX P ops N rest a .normal a' w' := ⟨rfl, hd, T', h, h2⟩
theorem wpT_actL {i : Nat} {o : Oper} {rest : List Nat} {a : Act} {w : World} (hi : ops[i]? = some o) (hk : readK o.op = false) (h : wpList P ops (OnT P ops N T rest a) [o] a w) : wpT P ops N T (i :: rest) a w := by
  simp only [wpT, hi]
  rw [if_neg (by rw [hk]; decide)]
  refine (V1_of (K := fun a' w' => T w' ∧ ∀ w'', T w'' → wpT P ops N T rest a' w'') h).mono fun u w' hu => ?_
  split
  · exact ⟨T, hu.1, hu.2 _ hu.1⟩
  · exact ⟨hu.1, hu.2 _ hu.1⟩
theorem wpT_totL {i : Nat} {o : Oper} {rest : List Nat} {a : Act} {w : World} (hi : ops[i]? = some o) (hk : readK o.op = false) (ht : totB ops i = true) (h : wpList P ops (OnX P ops N rest a) [o] a w) : wpT P ops N T (i :: rest) a w := by
  simp only [wpT, hi]
  rw [if_neg (by rw [hk]; decide)]
  refine (V1_of (K := fun a' w' => ∃ T' : World → Prop, T' w' ∧ ∀ w'', T' w'' → wpT P ops N T' rest a' w'') h).mono fun u w' hu => ?_
  obtain ⟨T', h1, h2⟩ := hu
  rw [if_pos ht]; exact ⟨T', h1, h2 _ h1⟩
end
section
variable {P : Program} {ops : Array Oper} {rest : List Oper} {o : Oper} {a : Act} {w w0 : World} {Q : Exit → Act → World → Prop} {F : Nat → Prop} {L : List Ent}
theorem listed_one {w : World} {g : Nat} {t : TypeId} {cs : List Value} (h : Blk w g t cs) (j : Nat) (v : Value) : (w.setCells g j [v]) = w.setCell ⟨g, j, none⟩ v := by
  simp [World.setCells]
theorem there_blk {w : World} {g : Nat} {t : TypeId} {cs : List Value} (h : Blk w g t cs) {j n : Nat} (hn : j + n ≤ cs.length) : w.there g j n := fun i hi => by
  refine ⟨?_, ?_⟩
  · rw [h.cell, List.getElem?_eq_getElem (by omega)]; rfl
  · exact h.frozen _
theorem setCells_blk {g : Nat} {t : TypeId} : ∀ (vs : List Value) {w : World} {cs : List Value} (j : Nat), Blk w g t cs → j + vs.length ≤ cs.length → Blk (w.setCells g j vs) g t (cs.take j ++ vs ++ cs.drop (j + vs.length))
  | [], w, cs, j, h, _ => by simpa [World.setCells] using h
  | v :: vs, w, cs, j, h, hl => by
    have h1 := h.set j v
    have h2 := setCells_blk vs (j + 1) h1 (by simp at hl ⊢; omega)
    simp only [World.setCells]
    have e : (cs.set j v).take (j + 1) ++ vs ++ (cs.set j v).drop (j + 1 + vs.length) = cs.take j ++ (v :: vs) ++ cs.drop (j + (v :: vs).length) := by
      simp only [List.length_cons] at hl
      rw [List.drop_set_of_lt (by omega), List.take_succ_eq_append_getElem (by simp; omega), List.getElem_set_self, List.take_set_of_le (Nat.le_refl _)]
      simp [Nat.add_assoc, Nat.add_comm 1]
    rw [e] at h2
    exact h2
theorem setCells_upd {g : Nat} : ∀ (vs : List Value) (w : World) (j : Nat), Upd (fun k => k = g) w (w.setCells g j vs)
  | [], w, j => Upd.refl _ _
  | v :: vs, w, j => by
    simp only [World.setCells]
    exact ((Upd.setCell w ⟨g, j, none⟩ v).mono fun _ _ hk => hk).trans (setCells_upd vs _ (j + 1)) fun _ _ hk => hk
theorem HS.setCells (h : HS F w0 w L) (i : Nat) {g : Nat} {t : TypeId} {cs : List Value} (hi : L[i]? = some (.blk g t cs)) (j : Nat) (vs : List Value) (hl : j + vs.length ≤ cs.length) : HS F w0 (w.setCells g j vs) (L.set i (.blk g t (cs.take j ++ vs ++ cs.drop (j + vs.length)))) :=
  h.upd1 i hi (setCells_upd vs w j) _ (setCells_blk vs j (h.blk i hi) hl) fun k hk => .inl hk
/-- A cell stored. -/
theorem hs_store1 (hS : HS F w0 w L) (i : Nat) {g : Nat} {t : TypeId} {cs : List Value} (hi : L[i]? = some (.blk g t cs)) (hw : Region.wanted o (yielded ops a.tmps) = true) (ty : TypeId) (x y : Operand) (ho : o.op = .store ty x y)
    (j : Nat) (hx : a.eval x = .pointer (some ⟨g, j, none⟩)) (v : Value) (hv : a.eval y = v) (h1 : v.oneCell' = true) (hs : (P.info? ty).map (·.size) = some 1) (hj : j < cs.length) (d : Option Tmp) (hd : o.dst = d)
    (h : ∀ w', HS F w0 w' (L.set i (.blk g t (cs.set j v))) → wpList P ops Q rest (a.put d undef) w') : wpList P ops Q (o :: rest) a w := by
  subst hd
  refine wpList_step fun K hK => ?_
  rw [if_pos hw]
  have hc : v.cells = #[v] := by cases v <;> first | rfl | cases h1
  have hb := hS.blk i hi
  have hcell : w.cell? ⟨g, j, none⟩ = some cs[j] := by rw [hb.cell, List.getElem?_eq_getElem hj]
  have hfz := hb.frozen j
  have hrun : (storeVar ty ⟨g, j, none⟩ v).run P w = .ok () (w.setCell ⟨g, j, none⟩ v) := by
    cases hq : P.info? ty with
    | none => simp [hq] at hs
    | some z =>
      have hz : z.size = 1 := by simpa [hq] using hs
      have := run_storeVar_mid (P := P) w g j ty #[v] (there_blk hb (by simp; omega)) (by simp [hq, hz]) (by simpa using h1)
      have h2 : storeVar ty ⟨g, j, none⟩ v = storeVar ty ⟨g, j, none⟩ (.agg #[v]) := by
        have e1 : (Value.agg #[v]).cells = #[v] := rfl
        unfold storeVar
        rw [hc, e1]
      rw [h2, this, listed_one hb]
  unfold Oper.wp execOp
  simp only [ho, hx, hv, Instr.storeAt, Instr.sureAddr, Sem.run_bind, Sem.run_pure, Result.andThen_ok, hrun]
  exact hK _ _ (h _ (hS.setCell i hi j v))
/-- Cells stored, a whole array or struct. -/
theorem hs_storeN (hS : HS F w0 w L) (i : Nat) {g : Nat} {t : TypeId} {cs : List Value} (hi : L[i]? = some (.blk g t cs)) (hw : Region.wanted o (yielded ops a.tmps) = true) (ty : TypeId) (x y : Operand) (ho : o.op = .store ty x y)
    (j : Nat) (hx : a.eval x = .pointer (some ⟨g, j, none⟩)) (vs : List Value) (hv : a.eval y = .agg vs.toArray) (h1 : ∀ v ∈ vs, v.oneCell' = true) (n : Nat) (hs : (P.info? ty).map (·.size) = some n) (hn : vs.length = n) (hj : j + n ≤ cs.length) (d : Option Tmp) (hd : o.dst = d)
    (h : ∀ w', HS F w0 w' (L.set i (.blk g t (cs.take j ++ vs ++ cs.drop (j + n)))) → wpList P ops Q rest (a.put d undef) w') : wpList P ops Q (o :: rest) a w := by
  subst hd hn
  refine wpList_step fun K hK => ?_
  rw [if_pos hw]
  exact wp_store_mid ty x y ho g j vs.toArray hx hv (by simpa using there_blk (hS.blk i hi) hj) (by simpa using hs) (all_oneCell_toArray h1) (hK _ _ (h _ (hS.setCells i hi j vs hj)))
/-- Cells loaded: an array or a struct, whole. -/
theorem hs_loadN (hS : HS F w0 w L) (i : Nat) {g : Nat} {t : TypeId} {cs : List Value} (hi : L[i]? = some (.blk g t cs)) (hw : Region.wanted o (yielded ops a.tmps) = true) (ty : TypeId) (x : Operand) (ho : o.op = .load ty x)
    (j : Nat) (hx : a.eval x = .pointer (some ⟨g, j, none⟩)) (vs : List Value) (hc : ∀ m v, vs[m]? = some v → cs[j + m]? = some v) (n : Nat) (hs : (P.info? ty).map (·.size) = some n) (hn : vs.length = n) (b : TypeDesc) (hu : P.underlying ty = some b) (hb : b.isRow = true) (d : Option Tmp) (hd : o.dst = d)
    (h : wpList P ops Q rest (a.put d (.agg vs.toArray)) w) : wpList P ops Q (o :: rest) a w := by
  subst hd hn
  refine wpList_step fun K hK => ?_
  rw [if_pos hw]
  exact wp_load_mid ty x ho g j hx vs b (fun m v hv => by rw [(hS.blk i hi).cell]; exact hc m v hv) hu hb hs (hK _ _ h)
/-- A cell loaded. -/
theorem hs_load1 (hS : HS F w0 w L) (i : Nat) {g : Nat} {t : TypeId} {cs : List Value} (hi : L[i]? = some (.blk g t cs)) (hw : Region.wanted o (yielded ops a.tmps) = true) (ty : TypeId) (x : Operand) (ho : o.op = .load ty x)
    (j : Nat) (hx : a.eval x = .pointer (some ⟨g, j, none⟩)) (v : Value) (hc : cs[j]? = some v) (b : TypeDesc) (hu : P.underlying ty = some b) (hb : b.isRow = false) (d : Option Tmp) (hd : o.dst = d)
    (h : wpList P ops Q rest (a.put d v) w) : wpList P ops Q (o :: rest) a w := by
  subst hd
  refine wpList_step fun K hK => ?_
  rw [if_pos hw]
  have hcell : w.cell? ⟨g, j, none⟩ = some v := by rw [(hS.blk i hi).cell]; exact hc
  have hagg : (isAgg ty).run P w = .ok false w := by
    unfold isAgg
    rw [Sem.run_bind, run_underlying hu w]
    cases b <;> simp_all
  have hrun : (loadVar ty ⟨g, j, none⟩).run P w = .ok v w := by
    simp [loadVar, Sem.run_bind, hagg, hcell]
  unfold Oper.wp execOp
  simp only [ho, hx, Instr.loadAt, Instr.sureAddr, Sem.run_bind, Sem.run_pure, Result.andThen_ok, hrun]
  exact hK _ _ h
/-- A whole block stored anew. -/
theorem hs_storeW (hS : HS F w0 w L) (i : Nat) {g : Nat} {t : TypeId} {cs : List Value} (hi : L[i]? = some (.blk g t cs)) (hw : Region.wanted o (yielded ops a.tmps) = true) (ty : TypeId) (x y : Operand) (ho : o.op = .store ty x y)
    (hx : a.eval x = .pointer (some ⟨g, 0, none⟩)) (vs : List Value) (hv : a.eval y = .agg vs.toArray) (h1 : ∀ v ∈ vs, v.oneCell' = true) (n : Nat) (hs : (P.info? ty).map (·.size) = some n) (hn : vs.length = n) (hc : cs.length = n) (d : Option Tmp) (hd : o.dst = d)
    (h : ∀ w', HS F w0 w' (L.set i (.blk g t vs)) → wpList P ops Q rest (a.put d undef) w') : wpList P ops Q (o :: rest) a w := by
  refine hs_storeN hS i hi hw ty x y ho 0 hx vs hv h1 n hs hn (by omega) d hd fun w' hS' => h w' ?_
  rw [List.take_zero, List.nil_append, Nat.zero_add, List.drop_eq_nil_of_le (by omega), List.append_nil] at hS'
  exact hS'
/-- A whole block loaded. -/
theorem hs_loadW (hS : HS F w0 w L) (i : Nat) {g : Nat} {t : TypeId} {vs : List Value} (hi : L[i]? = some (.blk g t vs)) (hw : Region.wanted o (yielded ops a.tmps) = true) (ty : TypeId) (x : Operand) (ho : o.op = .load ty x)
    (hx : a.eval x = .pointer (some ⟨g, 0, none⟩)) (n : Nat) (hs : (P.info? ty).map (·.size) = some n) (hn : vs.length = n) (b : TypeDesc) (hu : P.underlying ty = some b) (hb : b.isRow = true) (d : Option Tmp) (hd : o.dst = d)
    (h : wpList P ops Q rest (a.put d (.agg vs.toArray)) w) : wpList P ops Q (o :: rest) a w :=
  hs_loadN hS i hi hw ty x ho 0 hx vs (fun m v hv => by rw [Nat.zero_add]; exact hv) n hs hn b hu hb d hd h
end
theorem bodyPost_void {P : Program} {fn : Func} {R : Ending → World → Prop} {a : Act} {w : World} (hr : fn.results = #[]) (hd : a.defers = []) (hR : R (.returned (.tuple #[])) w) : bodyPost P fn R .normal a w :=
  bodyPost_end (results_none hr _ _ _) hd hR
end Go.Cour
/- s[f:], and copy over what one owns. -/
namespace Go.Cour
open Go.RowKit
section
variable {P : Program} {w : World} {ops : Array Oper} {rest : List Oper} {o : Oper} {a : Act} {Q : Exit → Act → World → Prop}
/-- Where s[f:] begins. -/
def cutA (A : Option Addr) (c f : Nat) : Option Addr := if c = f then A else A.map (·.add f)
theorem cutA_some {A : Option Addr} {c f m : Nat} (hf : f < m) (hmc : m ≤ c) : cutA A c f = A.map (·.add f) := by unfold cutA; rw [if_neg (by omega)]
theorem cutA_none {A : Option Addr} {c f : Nat} (hA : A = none → c = 0) (h : cutA A c f = none) : c - f = 0 := by
  unfold cutA at h
  split at h
  · omega
  · have := hA (by simpa using h)
    omega
theorem slice_cut (hw : Region.wanted o (yielded ops a.tmps) = true) (x y : Operand) (t : TypeId) (ho : o.op = .slice t x (some y) none none) (e : TypeId)
    (hu : P.underlying t = some (.slice e)) (hsz : (P.info? e).map (·.size) = some 1) (k : IntKind) (A : Option Addr) (m c f : Nat) (hx : a.eval x = .slice A m c) (hy : a.eval y = .int k (f : Int)) (hf : f ≤ m)
    (h : wpList P ops Q rest (a.put o.dst (.slice (cutA A c f) (m - f) (c - f))) w) : wpList P ops Q (o :: rest) a w := by
  obtain ⟨i, hi, hs⟩ : ∃ i, P.info? e = some i ∧ i.size = 1 := by
    cases hie : P.info? e with
    | none => simp [hie] at hsz
    | some i => exact ⟨i, rfl, by simpa [hie] using hsz⟩
  refine wpList_step fun K hK => ?_
  rw [if_pos hw]
  have hs2 : (sizeOf e).run P w = .ok 1 w := by simp [sizeOf, typeInfo, hi, hs]
  have hrun : (Instr.slice t (.slice A m c) (some (.int k (f : Int))) none none).run P w = .ok (.slice (cutA A c f) (m - f) (c - f)) w := by
    simp [Instr.slice, run_underlying hu, Instr.sliceBounds, run_sliceBound, hs2, hf, cutA]
  have hrun2 : (Instr.sliceAt t (.slice A m c) (some (.int k (f : Int))) none none).run P w = .ok (.slice (cutA A c f) (m - f) (c - f)) w := by
    rw [← hrun]; simp [Instr.sliceAt, run_underlying hu]
  unfold Oper.wp execOp
  simp only [ho, hx, hy, Option.map_some, Option.map_none]
  simp only [Sem.run_bind, Sem.run_pure, hrun2, Result.andThen_ok, Functor.map]
  first
    | exact hK _ _ h
    | (simp [hrun2]; exact hK _ _ h)
/-- s[f:] reads what stands from f on. -/
theorem rd_from {A A' : Option Addr} {k : IntKind} {xs : List Int} {f : Nat} (h : Rd w A k xs) (hA : f < xs.length → A' = A.map (·.add f)) : Rd w A' k (xs.drop f) := by
  by_cases hf : f < xs.length
  · rw [hA hf]
    rcases h with h | ⟨g, o, rfl, h⟩
    · exact .inl (by rw [h]; simp)
    · refine .inr ⟨g, o + f, by rw [Option.map_some, add_lit], fun i hi => ?_⟩
      rw [rd_drop, Nat.add_assoc]
      exact h _ (by rw [List.length_drop] at hi; omega)
  · exact .inl (List.drop_eq_nil_of_le (by omega))
/-- What stands behind copy(s[f:], ys). -/
def laid (xs : List Int) (f n : Nat) (ys : List Int) : List Int := xs.take f ++ ys.take n ++ xs.drop (f + n)
theorem laid_length {xs ys : List Int} {f n : Nat} (h1 : f + n ≤ xs.length) (h2 : n ≤ ys.length) : (laid xs f n ys).length = xs.length := by simp [laid]; omega
theorem copy_own (hgd : o.guard = none) (d s : Operand) (dT sT : TypeId)
    (ho : o.op = .call { callee := .builtin .copy, args := #[d, s], argTypes := #[dT, sT] }) (e : TypeId) (hu : P.underlying dT = some (.slice e)) (hsz : (P.info? e).map (·.size) = some 1)
    (k : IntKind) (x : Value) (xs : List Int) (hown : Own w 0 e k x xs) (A : Option Addr) (m c : Nat) (hx : x = .slice A m c) (hm : xs.length = m) (f : Nat) (hf : f ≤ m)
    (A' : Option Addr) (dCap : Nat) (hd : a.eval d = .slice A' (m - f) dCap) (hA' : f < m → A' = A.map (·.add f))
    (Ab : Option Addr) (q sCap : Nat) (ys : List Int) (hs : a.eval s = .slice Ab q sCap) (hq : ys.length = q) (hr : Rd w Ab k ys) (n : Nat) (hn : n = min q (m - f))
    (h : ∀ w', Own w' 0 e k x (laid xs f n ys) → Upd (fun j => x.ownBlock = some j) w w' → wpList P ops Q rest (a.put o.dst (.int .i64 (n : Int))) w') : wpList P ops Q (o :: rest) a w := by
  by_cases h0 : n = 0
  · subst h0
    refine wpList_copy_nothing hgd d s dT sT ho e hu hsz A' Ab (m - f) dCap q sCap hd hs hn.symm ?_
    exact h w (by unfold laid; rw [List.take_zero, List.append_nil, Nat.add_zero, List.take_append_drop]; exact hown) (Upd.refl _ _)
  · have hown0 := hown
    obtain ⟨h1, ⟨h2, h3⟩ | ⟨g, cap, cur, h2, hbg, hh, hnc, hcm, hcs, ht⟩⟩ := hown
    · omega
    · obtain ⟨rfl, hmm, rfl⟩ : A = some ⟨g, 0, none⟩ ∧ m = xs.length ∧ c = cap := by
        rw [hx] at h2; injection h2 with h2 h3 h4; exact ⟨h2, h3, h4⟩
      have hA2 : A' = some ⟨g, f, none⟩ := by rw [hA' (by omega), Option.map_some, add_lit, Nat.zero_add]
      subst hA2
      have hl : (ints k (ys.take n)).length = n := by simp; omega
      obtain ⟨gb, ob, rfl, hcell⟩ : ∃ gb ob, Ab = some ⟨gb, ob, none⟩ ∧ ∀ i, i < ys.length → w.cell? ⟨gb, ob + i, none⟩ = some (.int k (rd ys i)) := by
        rcases hr with hr | hr
        · rw [hr] at hq; simp at hq; omega
        · exact hr
      refine wpList_copy_own hgd d s dT sT ho e hu hsz g f (m - f) dCap ⟨gb, ob, none⟩ q sCap hd hs cur e hh (ints k (ys.take n)) (by rw [hl]; exact hn) ?_ (by rw [hl]; omega) ?_ ?_
      · intro j v hj
        have hj' : j < n := by have := (List.getElem?_eq_some_iff.1 hj).1; omega
        have hjl : j < ys.length := by omega
        rw [ints_get k _ j (by simp; omega)] at hj
        injection hj with hj
        subst hj
        rw [rd_take _ _ _ hj', add_lit]
        exact hcell j hjl
      · intro v hv
        obtain ⟨y, _, rfl⟩ := List.mem_map.1 hv
        rfl
      · rw [hl]
        have hsplit : cur.toList = ints k xs ++ cur.toList.drop m := by
          rw [← List.take_append_drop m cur.toList, List.drop_left' (by simp; omega)]
          rw [Nat.mul_one, ← hmm] at ht
          rw [ht]
        have hrow : cur.toList.take f ++ (ints k (ys.take n) ++ cur.toList.drop (f + n)) = ints k (laid xs f n ys) ++ cur.toList.drop m := by
          generalize cur.toList.drop m = R at hsplit
          have hlx : (ints k xs).length = m := by simp; omega
          rw [hsplit, List.take_append_of_le_length (by omega), List.drop_append_of_le_length (by omega)]
          simp [laid, ints, List.map_take, List.map_drop]
        have hlen := laid_length (xs := xs) (ys := ys) (f := f) (n := n) (by omega) (by omega)
        refine h _ ⟨by simp, .inr ⟨g, c, _, by rw [h2, hlen], Nat.zero_le _, setRow_heap w g cur _ e _ hh, by omega, hcm, ?_, ?_⟩⟩ ((Upd.setRow w g _).mono fun j _ hj => by subst hj; rw [h2]; rfl)
        · simp; omega
        · rw [hrow, List.take_left' (by simp)]
end
end Go.Cour
/- Slices of one's own, wherever they begin in their block: read, cut, appended to, written. -/
namespace Go.Cour
open Go.RowKit
/-- The slice value v, of the cells cs, is one's own. -/
def OwnS (w : World) (e : TypeId) (v : Value) (cs : List Value) : Prop :=
  (v = .slice none 0 0 ∧ cs = []) ∨ ∃ g off c cur, v = .slice (some ⟨g, off, none⟩) cs.length c ∧ w.heap[g]? = some (.cells cur e (0, 0)) ∧ cs.length ≤ c ∧ off + c ≤ cur.size ∧ c ≤ maxLen ∧ ∀ j u, cs[j]? = some u → cur[off + j]? = some u
section
variable {w w' : World} {e : TypeId} {v v' : Value} {cs : List Value}
theorem OwnS.nil (w : World) (e : TypeId) : OwnS w e (.slice none 0 0) [] := .inl ⟨rfl, rfl⟩
theorem OwnS.lt (h : OwnS w e v cs) (j : Nat) (hj : v.ownBlock = some j) : j < w.heap.size := by
  rcases h with ⟨rfl, _⟩ | ⟨g, off, c, cur, rfl, hh, _⟩
  · simp [Value.ownBlock] at hj
  · have : g = j := by simpa [Value.ownBlock] using hj
    subst this
    exact (Array.getElem?_eq_some_iff.1 hh).1
theorem OwnS.kept (h : OwnS w e v cs) (hk : ∀ j, v.ownBlock = some j → w'.heap[j]? = w.heap[j]?) : OwnS w' e v cs := by
  rcases h with h | ⟨g, off, c, cur, rfl, hh, r⟩
  · exact .inl h
  · exact .inr ⟨g, off, c, cur, rfl, (hk g rfl).trans hh, r⟩
theorem OwnS.below (h : OwnS w e v cs) (hb : Below w.heap.size w w') : OwnS w' e v cs := h.kept fun j hj => hb.block j (h.lt j hj)
theorem OwnS.parts (h : OwnS w e v cs) : ∃ A c, v = .slice A cs.length c ∧ cs.length ≤ c ∧ c ≤ maxLen ∧ (A = none → c = 0) ∧ (∀ a, A = some a → v.ownBlock = some a.block) ∧ ∀ j u, cs[j]? = some u → ∃ g off, A = some ⟨g, off, none⟩ ∧ w.cell? ⟨g, off + j, none⟩ = some u := by
  rcases h with ⟨rfl, rfl⟩ | ⟨g, off, c, cur, rfl, hh, h1, h2, h3, h4⟩
  · exact ⟨none, 0, rfl, Nat.le_refl _, by unfold maxLen; omega, fun _ => rfl, fun a ha => (by cases ha), fun j u hu => by simp at hu⟩
  · exact ⟨_, c, rfl, h1, h3, (fun ha => by cases ha), (fun a ha => by injection ha with ha; subst ha; rfl), fun j u hu => ⟨g, off, rfl, by rw [cell_of_row w g _ cur e (0, 0) hh]; exact h4 j u hu⟩⟩
theorem OwnS.ofRow {b : Nat} (h : w.ownsRow b e 1 v cs.length cs) : OwnS w e v cs := by
  obtain ⟨h1, ⟨rfl, h2⟩ | ⟨g, cap, cur, rfl, hg, hh, hn, hm, hs, ht⟩⟩ := h
  · exact .inl ⟨rfl, List.eq_nil_of_length_eq_zero h2⟩
  · refine .inr ⟨g, 0, cap, cur, rfl, hh, hn, by omega, hm, fun j u hu => ?_⟩
    rw [← ht, Nat.mul_one, List.getElem?_take] at hu
    split at hu
    · simpa using hu
    · cases hu
theorem Own.os {b : Nat} {k : IntKind} {xs : List Int} (h : Own w b e k v xs) : OwnS w e v (ints k xs) := OwnS.ofRow (b := b) (by
  have : xs.length = (ints k xs).length := by simp
  unfold Own at h
  rwa [this] at h)
theorem OwnV.os {b : Nat} (h : OwnV w b e v cs) : OwnS w e v cs := OwnS.ofRow h
theorem OwnS.ofBlk {g : Nat} (h : Blk w g e cs) (hm : cs.length ≤ maxLen) : OwnS w e (.slice (some ⟨g, 0, none⟩) cs.length cs.length) cs :=
  .inr ⟨g, 0, cs.length, cs.toArray, rfl, h, Nat.le_refl _, by simp, hm, fun j u hu => by simpa using hu⟩
/-- It reads as numbers. -/
theorem OwnS.rd {k : IntKind} {xs : List Int} (h : OwnS w e v (ints k xs)) {A : Option Addr} {n c : Nat} (hv : v = .slice A n c) : Rd w A k xs := by
  rcases h with ⟨rfl, h⟩ | ⟨g, off, c', cur, rfl, hh, h1, h2, h3, h4⟩
  · left; simpa [ints] using h
  · injection hv with hv
    subst hv
    exact .inr ⟨g, off, rfl, fun i hi => by rw [cell_of_row w g _ cur e (0, 0) hh]; exact h4 i _ (ints_get k xs i hi)⟩
theorem OwnS.len {A : Option Addr} {n c : Nat} (h : OwnS w e (.slice A n c) cs) : n = cs.length ∧ n ≤ c ∧ c ≤ maxLen ∧ (A = none → c = 0) := by
  obtain ⟨A', c', hv, h1, h2, h3, _⟩ := h.parts
  injection hv with hv1 hv2 hv3
  subst hv1 hv2 hv3
  exact ⟨rfl, h1, h2, h3⟩
theorem OwnS.cut {A : Option Addr} {n c : Nat} (h : OwnS w e (.slice A n c) cs) (f : Nat) (hf : f ≤ n) : OwnS w e (.slice (cutA A c f) (n - f) (c - f)) (cs.drop f) := by
  rcases h with ⟨hv, rfl⟩ | ⟨g, off, c', cur, hv, hh, h1, h2, h3, h4⟩
  · injection hv with hv1 hv2 hv3
    subst hv1 hv2 hv3
    obtain rfl : f = 0 := by omega
    exact .inl ⟨by simp [cutA], by simp⟩
  · injection hv with hv1 hv2 hv3
    subst hv1 hv2 hv3
    unfold cutA
    by_cases hc : c = f
    · rw [if_pos hc]
      refine .inr ⟨g, off, c - f, cur, by simp, hh, by simp; omega, by omega, by omega, fun j u hu => ?_⟩
      rw [List.getElem?_drop] at hu
      have := (List.getElem?_eq_some_iff.1 hu).1
      omega
    · rw [if_neg hc]
      refine .inr ⟨g, off + f, c - f, cur, by simp [add_lit], hh, by simp; omega, by omega, by omega, fun j u hu => ?_⟩
      rw [List.getElem?_drop] at hu
      rw [Nat.add_assoc]
      exact h4 _ _ hu
theorem cutA_own {A : Option Addr} {c f n m n' c' : Nat} (j : Nat) (h : (Value.slice (cutA A c f) n m).ownBlock = some j) : (Value.slice A n' c').ownBlock = some j := by
  unfold cutA at h
  split at h
  · cases A with
    | none => simp [Value.ownBlock] at h
    | some a => simpa [Value.ownBlock] using h
  · cases A with
    | none => simp [Value.ownBlock] at h
    | some a => simp [Value.ownBlock] at h ⊢; rw [← h]; simp [Addr.add]; split <;> rfl
/-- A place of it written. -/
theorem OwnS.set (h : OwnS w e v cs) {g off n c : Nat} (hv : v = .slice (some ⟨g, off, none⟩) n c) (j : Nat) (u : Value) (hj : j < cs.length) : OwnS (w.setCell ⟨g, off + j, none⟩ u) e v (cs.set j u) := by
  rcases h with ⟨rfl, rfl⟩ | ⟨g', off', c', cur, hv', hh, h1, h2, h3, h4⟩
  · simp at hj
  · rw [hv] at hv'
    injection hv' with hv1 hv2 hv3
    injection hv1 with hv1
    injection hv1 with hv1 hv4
    subst hv1 hv2 hv3 hv4
    refine .inr ⟨g, off, c, cur.setIfInBounds (off + j) u, by rw [hv, List.length_set], heap_setCell_same w g (off + j) cur e _ hh, by simpa using h1, by simpa using h2, h3, fun i x hx => ?_⟩
    by_cases hij : j = i
    · subst hij
      rw [List.getElem?_set_self hj] at hx
      rw [Array.getElem?_setIfInBounds]
      simp [← hx]; omega
    · rw [List.getElem?_set_ne hij] at hx
      rw [Array.getElem?_setIfInBounds_ne (by omega)]
      exact h4 i x hx
theorem OwnS.frozen (h : OwnS w e v cs) {g off n c : Nat} (hv : v = .slice (some ⟨g, off, none⟩) n c) (j : Nat) : w.frozen? ⟨g, j, none⟩ = false := by
  rcases h with ⟨rfl, rfl⟩ | ⟨g', off', c', cur, hv', hh, _⟩
  · cases hv
  · rw [hv] at hv'
    injection hv' with hv1
    injection hv1 with hv1
    injection hv1 with hv1
    subst hv1
    simp [World.frozen?, hh]
end
def Ent.os (e : TypeId) (v : Value) (cs : List Value) : Ent where
  F := fun j => v.ownBlock = some j
  p := fun w => OwnS w e v cs
  lt := fun h j hj => h.lt j hj
  kept := fun h hk => h.kept hk
section
variable {P : Program} {w w0 : World} {F : Nat → Prop} {L : List Ent}
theorem HS.os (h : HS F w0 w L) (i : Nat) {t : TypeId} {v : Value} {cs : List Value} (hi : L[i]? = some (.os t v cs)) : OwnS w t v cs := h.mem.get hi
theorem firstCells_none {w : World} {n : Nat} (h : n = 0) : True := trivial
/-- append, whatever lies behind the slice. -/
theorem run_append_os (t ty e : TypeId) (bytes : Nat) (ht : P.underlying t = some (.slice e)) (hi : (P.info? e).map (fun i => (i.size, i.bytes)) = some (1, bytes)) (hz : (((P.info? e).bind (·.zero)).map (·.cells.size)) = some 1)
    (v : Value) (cs : List Value) (hown : OwnS w e v cs) (A : Option Addr) (m c : Nat) (news : List Value) (hl : news.length = m) (hnews : ∀ j u, news[j]? = some u → ∃ ad, A = some ad ∧ w.cell? (ad.add j) = some u) (h1 : ∀ u ∈ news, u.oneCell' = true)
    (hbytes : (cs.length + m) * bytes ≤ 140737488355328) (h63 : cs.length + m ≤ 140737488355328) :
    ∃ v' w', (Builtin.append_ #[t, t] ty #[v, .slice A m c]).run P w = .ok v' w' ∧ OwnS w' e v' (cs ++ news) ∧ Upd (fun j => v.ownBlock = some j) w w' ∧ ∀ k, v'.ownBlock = some k → v.ownBlock = some k ∨ w.heap.size ≤ k := by
  obtain ⟨i, hi0, hi1, hi2⟩ : ∃ i, P.info? e = some i ∧ i.size = 1 ∧ i.bytes = bytes := by
    cases hq : P.info? e with
    | none => simp [hq] at hi
    | some i => simp [hq] at hi; exact ⟨i, rfl, hi.1, hi.2⟩
  obtain ⟨z, hz0, hz1⟩ : ∃ z, i.zero = some z ∧ z.cells.size = 1 := by
    cases hq : i.zero with
    | none => simp [hi0, hq] at hz
    | some z => simp [hi0, hq] at hz; exact ⟨z, rfl, hz⟩
  by_cases hm : m = 0
  · have hnil : news = [] := List.eq_nil_of_length_eq_zero (by omega)
    subst hnil hm
    refine ⟨v, w, ?_, by simpa using hown, Upd.refl _ _, fun k hk => .inl hk⟩
    have hr : ∀ (B : Option Addr) (n cap : Nat), n ≤ cap → v = .slice B n cap → (B = none → cap = 0) → (Builtin.append_ #[t, t] ty #[.slice B n cap, .slice A 0 c]).run P w = .ok (.slice B n cap) w := fun B n cap hnc hv hB => by
      cases B with
      | none =>
        have := hB rfl
        obtain rfl : n = 0 := by omega
        cases A <;> simp [Builtin.append_, run_underlying ht, sizeOf, typeInfo, hi0, Builtin.lenOf, Builtin.firstCells, loadCells, loadCellsFrom]
      | some b => cases A <;> simp [Builtin.append_, run_underlying ht, sizeOf, typeInfo, hi0, Builtin.lenOf, hnc, Builtin.firstCells, loadCells, loadCellsFrom, storeCells]
    obtain ⟨B, cap, hv, hnc, _, hB, _⟩ := hown.parts
    rw [hv]; exact hr B cs.length cap hnc hv hB
  · obtain ⟨ad, rfl⟩ : ∃ ad, A = some ad := by
      cases news with
      | nil => simp at hl; omega
      | cons u us => obtain ⟨ad, h, _⟩ := hnews 0 u (by simp); exact ⟨ad, h⟩
    have hnews' : ∀ j u, news[j]? = some u → w.cell? (ad.add j) = some u := fun j u hu => by
      obtain ⟨ad', h, h2⟩ := hnews j u hu
      injection h with h; subst h; exact h2
    rcases hown with ⟨rfl, rfl⟩ | ⟨g, off, cap, cur, rfl, hh, hn, hfit, hcm, hcs⟩
    · have hr := run_append_nil (P := P) w t ty e i z ht hi0 hz0 ad m c news (by rw [hl, hi1, Nat.mul_one]) hnews' (by omega) (by omega) (by rw [hi2]; simp at hbytes; omega)
      refine ⟨_, _, hr, ?_, Upd.of_below ((below_drewN (Below.refl w.heap.size w) 1).alloc (Nat.le_refl _) _) _, fun k hk => .inr ?_⟩
      · refine .inr ⟨w.heap.size, 0, _, _, by rw [List.nil_append, hl], heap_alloc_new w.drew _, ?_, ?_, grownCap_le_maxLen w m 0 e (by unfold maxLen; simp at h63; omega), fun j u hu => ?_⟩
        · rw [List.nil_append, hl]; exact grownCap_ge w m 0 e
        · have := grownCap_ge w m 0 e
          simp only [Array.size_append, List.size_toArray, size_zeroCells, hz1, hl]; omega
        · rw [List.nil_append] at hu
          have hlt := (List.getElem?_eq_some_iff.1 hu).1
          rw [Nat.zero_add, Array.getElem?_append_left (by simpa using hlt)]
          simpa using hu
      · have : w.heap.size = k := by simpa [Value.ownBlock] using hk
        omega
    · have holds : ∀ j u, cs[j]? = some u → w.cell? ((⟨g, off, none⟩ : Addr).add j) = some u := fun j u hu => by
        rw [add_lit, cell_of_row w g _ cur e (0, 0) hh]; exact hcs j u hu
      by_cases hroom : cs.length + m ≤ cap
      · have hr := run_append_room_cells (P := P) w t ty e i ht hi0 g off cs.length cap ad m c news (by rw [hl, hi1, Nat.mul_one]) hnews' h1 hroom
          (fun j hj => by rw [hi1, Nat.mul_one, cell_of_row w g _ cur e (0, 0) hh, Array.getElem?_eq_getElem (by omega)]; rfl)
          (fun j hj => by simp [World.frozen?, hh])
        rw [hi1, Nat.mul_one] at hr
        refine ⟨_, _, hr, ?_, (setCells_upd news w _).mono fun k _ hk => by simp [Value.ownBlock]; exact hk.symm, fun k hk => .inl (by simpa [Value.ownBlock] using hk)⟩
        have hb : Blk w g e cur.toList := by unfold Blk; simpa using hh
        have hb2 := setCells_blk news (off + cs.length) hb (by simp; omega)
        refine .inr ⟨g, off, cap, _, by rw [List.length_append, hl], hb2, by rw [List.length_append]; omega, by simp; omega, hcm, fun j u hu => ?_⟩
        rw [List.getElem?_append] at hu
        simp only [List.getElem?_toArray]
        rw [List.append_assoc]
        split at hu
        · rename_i hlt
          rw [List.getElem?_append_left (by simp; omega), List.getElem?_take, if_pos (by omega)]
          simpa using hcs j u hu
        · rename_i hge
          have hlt := (List.getElem?_eq_some_iff.1 hu).1
          rw [List.getElem?_append_right (by simp; omega), List.getElem?_append_left (by simp; omega)]
          rw [← hu]; congr 1; simp; omega
      · have hr := run_append_grow (P := P) w t ty e i z ht hi0 hz0 ⟨g, off, none⟩ cs.length cap cs (by rw [hi1, Nat.mul_one]) holds ad m c news (by rw [hl, hi1, Nat.mul_one]) hnews' (by omega) (by omega) (growslice_fits (by omega) (by rw [hi2]; exact hbytes))
        refine ⟨_, _, hr, ?_, Upd.of_below ((below_drewN (Below.refl w.heap.size w) 1).alloc (Nat.le_refl _) _) _, fun k hk => .inr ?_⟩
        · refine .inr ⟨w.heap.size, 0, _, _, by rw [List.length_append, hl], heap_alloc_new w.drew _, ?_, ?_, grownCap_le_maxLen w _ cap e (by unfold maxLen; omega), fun j u hu => ?_⟩
          · rw [List.length_append, hl]; exact grownCap_ge w _ cap e
          · have := grownCap_ge w (cs.length + m) cap e
            simp only [Array.size_append, List.size_toArray, size_zeroCells, hz1, hl]; omega
          · have hlt := (List.getElem?_eq_some_iff.1 hu).1
            rw [Nat.zero_add, Array.getElem?_append_left (by simpa using hlt)]
            simpa using hu
        · have : w.heap.size = k := by simpa [Value.ownBlock] using hk
          omega
end
section
variable {P : Program} {ops : Array Oper} {rest : List Oper} {o : Oper} {a : Act} {w w0 : World} {Q : Exit → Act → World → Prop} {F : Nat → Prop} {L : List Ent}
theorem hs_append (hS : HS F w0 w L) (i : Nat) {e : TypeId} {v : Value} {cs : List Value} (hi : L[i]? = some (.os e v cs)) (hw : Region.wanted o (yielded ops a.tmps) = true) (s x : Operand) (t : TypeId)
    (ho : o.op = .call { callee := .builtin .append, args := #[s, x], argTypes := #[t, t] }) (bytes : Nat) (ht : P.underlying t = some (.slice e)) (hf : (P.info? e).map (fun i => (i.size, i.bytes)) = some (1, bytes)) (hz : (((P.info? e).bind (·.zero)).map (·.cells.size)) = some 1)
    (hs : a.eval s = v) (A : Option Addr) (m c : Nat) (hx : a.eval x = .slice A m c) (news : List Value) (hl : news.length = m) (hnews : ∀ j u, news[j]? = some u → ∃ ad, A = some ad ∧ w.cell? (ad.add j) = some u) (h1 : ∀ u ∈ news, u.oneCell' = true)
    (hbytes : (cs.length + m) * bytes ≤ 140737488355328) (h63 : cs.length + m ≤ 140737488355328) (d : Option Tmp) (hd : o.dst = d)
    (h : ∀ A' n' c' w', (cs ++ news).length = n' → n' ≤ c' → (A' = none → c' = 0) → HS F w0 w' (L.set i (.os e (.slice A' n' c') (cs ++ news))) → wpList P ops Q rest (a.put d (.slice A' n' c')) w') : wpList P ops Q (o :: rest) a w := by
  subst hd
  refine wpList_step fun K hK => ?_
  rw [if_pos hw]
  obtain ⟨v', w', hrun, ho', hu, hb⟩ := run_append_os (P := P) t o.type e bytes ht hf hz v cs (hS.os i hi) A m c news hl hnews h1 hbytes h63
  unfold Oper.wp execOp
  simp only [ho, resolve, invoke, builtin]
  simp [hs, hx, hrun]
  obtain ⟨A', c', rfl, h5, _, h6, _⟩ := ho'.parts
  exact hK _ _ (h A' _ c' w' rfl h5 h6 (hS.upd1 i hi hu _ ho' hb))
end
/-- An empty literal. -/
theorem hs_empty {P : Program} {ops : Array Oper} {rest : List Oper} {o : Oper} {a : Act} {w w0 : World} {Q : Exit → Act → World → Prop} {F : Nat → Prop} {L : List Ent} (hS : HS F w0 w L) (hw : Region.wanted o (yielded ops a.tmps) = true) (t e : TypeId) (ho : o.op = .buildSlice t 0 #[])
    (hu : P.underlying t = some (.slice e)) (hz : ((P.info? e).bind (·.zero)).isSome = true) (d : Option Tmp) (hd : o.dst = d)
    (h : ∀ g w', w.heap.size = g → Below w.heap.size w w' → HS F w0 w' (.os e (.slice (some ⟨g, 0, none⟩) 0 0) [] :: L) → wpList P ops Q rest (a.put d (.slice (some ⟨g, 0, none⟩) 0 0)) w') : wpList P ops Q (o :: rest) a w := by
  subst hd
  have hB : Below w.heap.size w (w.alloc (.cells (#[] : Array Value) e)) := (Below.refl _ _).alloc (Nat.le_refl _) _
  have hb : Blk (w.alloc (.cells (#[] : Array Value) e)) w.heap.size e [] := Blk.new w e []
  have h1 := h w.heap.size _ rfl hB (hS.push hB (.os e (.slice (some ⟨w.heap.size, 0, none⟩) 0 0) []) (OwnS.ofBlk hb (Nat.zero_le _)) (fun k hk => Nat.le_of_eq (by simpa [Ent.os, Value.ownBlock] using hk)))
  cases hie : P.info? e with
  | none => simp [hie] at hz
  | some ie =>
    refine wpList_step fun K hK => ?_
    rw [if_pos hw]
    have hrun : (Instr.buildSlice t 0 #[]).run P w = .ok (.slice (some ⟨w.heap.size, 0, none⟩) 0 0) (w.alloc (.cells (#[] : Array Value) e)) := by
      have e0 : ∀ f : Nat → Value, Array.map f (Array.range 0) = #[] := fun f => Array.eq_empty_of_size_eq_zero (by simp)
      simp [Instr.buildSlice, run_underlying hu, sizeOf, typeInfo, hie, Instr.fill, newRow, e0]
    unfold Oper.wp execOp
    simp [ho, hrun]
    exact hK _ _ h1
/-- A literal of one. -/
theorem hs_one {P : Program} {ops : Array Oper} {rest : List Oper} {o : Oper} {a : Act} {w w0 : World} {Q : Exit → Act → World → Prop} {F : Nat → Prop} {L : List Ent} (hS : HS F w0 w L) (hw : Region.wanted o (yielded ops a.tmps) = true) (t e : TypeId) (x : Operand) (ho : o.op = .buildSlice t 1 #[(0, x)])
    (hu : P.underlying t = some (.slice e)) (hf : (P.info? e).map (·.size) = some 1) (hz : (((P.info? e).bind (·.zero)).map (·.cells.size)) = some 1) (v : Value) (hv : a.eval x = v) (h1 : v.oneCell' = true) (d : Option Tmp) (hd : o.dst = d)
    (h : ∀ g w', w.heap.size = g → Below w.heap.size w w' → HS F w0 w' (.os e (.slice (some ⟨g, 0, none⟩) 1 1) [v] :: L) → wpList P ops Q rest (a.put d (.slice (some ⟨g, 0, none⟩) 1 1)) w') : wpList P ops Q (o :: rest) a w := by
  subst hd
  have hB : Below w.heap.size w (w.alloc (.cells (#[v] : Array Value) e)) := (Below.refl _ _).alloc (Nat.le_refl _) _
  have hb : Blk (w.alloc (.cells (#[v] : Array Value) e)) w.heap.size e [v] := Blk.new w e [v]
  have h2 := h w.heap.size _ rfl hB (hS.push hB (.os e (.slice (some ⟨w.heap.size, 0, none⟩) 1 1) [v]) (OwnS.ofBlk hb (by unfold maxLen; simp)) (fun k hk => Nat.le_of_eq (by simpa [Ent.os, Value.ownBlock] using hk)))
  have hc : v.cells = #[v] := by cases v <;> first | rfl | cases h1
  cases hie : P.info? e with
  | none => simp [hie] at hf
  | some ie =>
    have hsz : ie.size = 1 := by simpa [hie] using hf
    cases hzz : ie.zero with
    | none => simp [hie, hzz] at hz
    | some z =>
      have hz1 : z.cells.size = 1 := by simpa [hie, hzz] using hz
      refine wpList_step fun K hK => ?_
      rw [if_pos hw]
      refine wp_buildSlice t e 1 #[(0, x)] ho #[v] ie z hu hie hzz (by rw [hsz]; decide) (by rw [hsz]; decide) ?_ (hK _ _ h2)
      have e1 : ∀ xs : Array Value, xs.size = 1 → xs.setIfInBounds 0 v = #[v] := fun xs hx => by
        obtain ⟨y, rfl⟩ := Array.size_eq_one_iff.1 hx
        rfl
      simp [hsz, hv, Instr.fill, hc, e1]
theorem news_of_rd {w : World} {A : Option Addr} {k : IntKind} {xs : List Int} (h : Rd w A k xs) : ∀ j u, (ints k xs)[j]? = some u → ∃ ad, A = some ad ∧ w.cell? (ad.add j) = some u := fun j u hu => by
  have hlt := (List.getElem?_eq_some_iff.1 hu).1
  simp at hlt
  rw [ints_get k xs j hlt] at hu
  injection hu with hu
  subst hu
  rcases h with h | ⟨g, o, rfl, h⟩
  · subst h; simp at hlt
  · exact ⟨_, rfl, by rw [add_lit]; exact h j hlt⟩
theorem ints_one' (k : IntKind) (xs : List Int) : ∀ u ∈ ints k xs, u.oneCell' = true := fun u hu => by
  obtain ⟨y, _, rfl⟩ := List.mem_map.1 hu; rfl
/-- A fresh slice beside all that is there. -/
theorem HS.pushOwn {F : Nat → Prop} {w0 w w' : World} {L : List Ent} (h : HS F w0 w L) (hb : Below w.heap.size w w') {e : TypeId} {k : IntKind} {v : Value} {xs : List Int} (ho : Own w' w.heap.size e k v xs) : HS F w0 w' (.os e v (ints k xs) :: L) :=
  h.push hb _ ho.os fun j hj => ho.base_le j hj
theorem Own.partsL {w : World} {b m : Nat} {e : TypeId} {k : IntKind} {v : Value} {xs : List Int} (h : Own w b e k v xs) (hm : xs.length = m) : ∃ A c, v = .slice A m c ∧ m ≤ c ∧ (A = none → c = 0) := by
  subst hm
  obtain ⟨A, c, h1, h2, h3, _⟩ := h.parts
  exact ⟨A, c, h1, h2, h3⟩
end Go.Cour
/- A desc's cells. -/
namespace Go.Proofs.YtlikinglgegclaaDoor
open Go.RowKit Go.Cour
/-- A desc's cells. -/
def descC (id m q : Int) (key root blob : List Int) : List Value := [.int .u32 id, .int .u32 m, .int .u32 q] ++ ints .u8 key ++ ints .u8 root ++ ints .u8 blob
theorem descC_length {id m q : Int} {key root blob : List Int} (hk : key.length = 32) (hr : root.length = 32) (hb : blob.length = 32) : (descC id m q key root blob).length = 99 := by simp [descC, hk, hr, hb]
theorem descC_one (id m q : Int) (key root blob : List Int) : ∀ v ∈ descC id m q key root blob, v.oneCell' = true := fun v hv => by
  unfold descC at hv
  simp only [List.mem_append, List.mem_cons, List.not_mem_nil, or_false] at hv
  rcases hv with (((rfl | rfl | rfl) | hv) | hv) | hv
  · rfl
  · rfl
  · rfl
  · exact ints_one' _ _ v hv
  · exact ints_one' _ _ v hv
  · exact ints_one' _ _ v hv
theorem sizeDesc : (Tryd.prog.info? 32).map (·.size) = some 99 := by kernel_rfl
theorem undDesc : ∃ fs, Tryd.prog.underlying 32 = some (.struct fs) := ⟨_, Tryd.underlying32⟩
end Go.Proofs.YtlikinglgegclaaDoor
/- Descs held against each other. -/
namespace Go.Proofs.YtlikinglgegclaaDoor
open Go.RowKit Go.Cour
theorem undU8D : Tryd.prog.underlying 5 = some (.int .u8) := by kernel_rfl
theorem sizeU8D : (Tryd.prog.info? 5).map (·.size) = some 1 := by kernel_rfl
theorem arrKeyD : Tryd.prog.underlying 27 = some (.array 32 5) := by kernel_rfl
theorem arrHashD : Tryd.prog.underlying 30 = some (.array 32 5) := by kernel_rfl
theorem infoKeyD : (Tryd.prog.info? 27).map (·.size) = some 32 := by kernel_rfl
theorem infoHashD : (Tryd.prog.info? 30).map (·.size) = some 32 := by kernel_rfl
theorem part_arr {P : Program} (w : World) (t e : TypeId) (n : Nat) (ht : P.underlying t = some (.array n e)) (hi : (P.info? t).map (·.size) = some n) (xs : Array Value) (off : Nat) (cs : Array Value) (h : xs.extract off (off + n) = cs) :
    (part t xs off).run P w = .ok (.agg cs) w := by
  obtain ⟨i, hi1, hi2⟩ : ∃ i, P.info? t = some i ∧ i.size = n := by
    cases hie : P.info? t with
    | none => simp [hie] at hi
    | some i => exact ⟨i, rfl, by simpa [hie] using hi⟩
  subst h
  simp [part, isAgg, run_underlying ht, sizeOf, typeInfo, hi1, hi2]
theorem part_int {P : Program} (w : World) (t : TypeId) (k : IntKind) (ht : P.underlying t = some (.int k)) (xs : Array Value) (off : Nat) (v : Value) (h : xs[off]? = some v) :
    (part t xs off).run P w = .ok v w := by
  simp [part, isAgg, run_underlying ht, h]
section
variable {id m q : Int} {k r b : List Int}
theorem descC_ext3 (hk : k.length = 32) : (descC id m q k r b).toArray.extract 3 35 = (ints .u8 k).toArray := by
  unfold descC
  apply Array.ext'
  simp [List.drop_append, hk, List.take_append]
theorem descC_ext35 (hk : k.length = 32) (hr : r.length = 32) : (descC id m q k r b).toArray.extract 35 67 = (ints .u8 r).toArray := by
  unfold descC
  apply Array.ext'
  simp [List.drop_append, hk, hr, List.take_append]
theorem descC_ext67 (hk : k.length = 32) (hr : r.length = 32) (hb : b.length = 32) : (descC id m q k r b).toArray.extract 67 99 = (ints .u8 b).toArray := by
  unfold descC
  apply Array.ext'
  simp [List.drop_append, hk, hr, hb, List.take_append]
  rw [List.drop_eq_nil_of_le (by simp [hk]), List.take_nil, List.nil_append]
  exact List.take_of_length_le (by simp [hb])
end
theorem fieldsDesc : (Tryd.prog.fieldsOf 32).toList.map (fun f => (f.name != "_", f.type, f.offset)) = [(true, 29, 0), (true, 29, 1), (true, 29, 2), (true, 27, 3), (true, 30, 35), (true, 30, 67)] := by kernel_rfl
theorem undU32D : Tryd.prog.underlying 29 = some (.int .u32) := by kernel_rfl
theorem undDescF : Tryd.prog.underlying 32 = some (.struct (Tryd.prog.fieldsOf 32)) := by kernel_rfl
theorem eqF_cons {P : Program} (w : World) (d : Nat) (xs ys : Array Value) (f : Field) (fs : List Field) (b : Bool) (t : TypeId) (o : Nat) (hf : (f.name != "_", f.type, f.offset) = (true, t, o)) (u v : Value) (hu : (part t xs o).run P w = .ok u w) (hv : (part t ys o).run P w = .ok v w) (he : (Op.equalIn d t u v).run P w = .ok b w) :
    (Op.eqFields d xs ys (f :: fs)).run P w = if b then (Op.eqFields d xs ys fs).run P w else .ok false w := by
  injection hf with h1 h2; injection h2 with h2 h3
  subst h2 h3
  have hn : f.name ≠ "_" := by simpa using h1
  cases b <;> simp [Op.eqFields, hn, hu, hv, he]
theorem desc_same (id m q : Int) (k r b : List Int) (hk : k.length = 32) (hr : r.length = 32) (hb : b.length = 32) (w : World) :
    (Op.equalIn 10000 32 (.agg (descC id m q k r b).toArray) (.agg (descC id m q k r b).toArray)).run Tryd.prog w = .ok true w := by
  rw [run_equalIn_agg w 9999 32 _ _ undDescF (by kernel_rfl)]
  have hf := fieldsDesc
  generalize (Tryd.prog.fieldsOf 32).toList = fs at hf
  obtain ⟨f0, fs, rfl, h0, hf⟩ := List.map_eq_cons_iff.1 hf
  obtain ⟨f1, fs, rfl, h1, hf⟩ := List.map_eq_cons_iff.1 hf
  obtain ⟨f2, fs, rfl, h2, hf⟩ := List.map_eq_cons_iff.1 hf
  obtain ⟨f3, fs, rfl, h3, hf⟩ := List.map_eq_cons_iff.1 hf
  obtain ⟨f4, fs, rfl, h4, hf⟩ := List.map_eq_cons_iff.1 hf
  obtain ⟨f5, fs, rfl, h5, hf⟩ := List.map_eq_cons_iff.1 hf
  obtain rfl := List.map_eq_nil_iff.1 hf
  have pi : ∀ (o : Nat) (x : Int), (descC id m q k r b).toArray[o]? = some (.int .u32 x) → (part 29 (descC id m q k r b).toArray o).run Tryd.prog w = .ok (.int .u32 x) w := fun o x h => part_int w 29 .u32 undU32D _ o _ h
  have ei : ∀ x : Int, (Op.equalIn 9999 29 (.int .u32 x) (.int .u32 x)).run Tryd.prog w = .ok true w := fun x => by rw [run_equalIn_int w 9998 29 .u32 .u32 x x undU32D]; simp
  have ek : ∀ xs : List Int, xs.length = 32 → (Op.equalIn 9999 27 (.agg (ints .u8 xs).toArray) (.agg (ints .u8 xs).toArray)).run Tryd.prog w = .ok true w := fun xs h => by rw [run_equalIn_ints w 9997 27 5 32 .u8 arrKeyD undU8D sizeU8D xs xs h h]; simp
  have eh : ∀ xs : List Int, xs.length = 32 → (Op.equalIn 9999 30 (.agg (ints .u8 xs).toArray) (.agg (ints .u8 xs).toArray)).run Tryd.prog w = .ok true w := fun xs h => by rw [run_equalIn_ints w 9997 30 5 32 .u8 arrHashD undU8D sizeU8D xs xs h h]; simp
  have a0 := pi 0 id (by simp [descC])
  have a1 := pi 1 m (by simp [descC])
  have a2 := pi 2 q (by simp [descC])
  have a3 := part_arr (P := Tryd.prog) w 27 5 32 arrKeyD infoKeyD (descC id m q k r b).toArray 3 _ (descC_ext3 hk)
  have a4 := part_arr (P := Tryd.prog) w 30 5 32 arrHashD infoHashD (descC id m q k r b).toArray 35 _ (descC_ext35 hk hr)
  have a5 := part_arr (P := Tryd.prog) w 30 5 32 arrHashD infoHashD (descC id m q k r b).toArray 67 _ (descC_ext67 hk hr hb)
  rw [eqF_cons w _ _ _ _ _ true _ _ h0 _ _ a0 a0 (ei id), if_pos rfl, eqF_cons w _ _ _ _ _ true _ _ h1 _ _ a1 a1 (ei m), if_pos rfl, eqF_cons w _ _ _ _ _ true _ _ h2 _ _ a2 a2 (ei q), if_pos rfl,
    eqF_cons w _ _ _ _ _ true _ _ h3 _ _ a3 a3 (ek k hk), if_pos rfl, eqF_cons w _ _ _ _ _ true _ _ h4 _ _ a4 a4 (eh r hr), if_pos rfl, eqF_cons w _ _ _ _ _ true _ _ h5 _ _ a5 a5 (eh b hb), if_pos rfl]
  simp [Op.eqFields]
theorem desc_neq (id m q : Int) (k r b : List Int) (hk : k.length = 32) (hr : r.length = 32) (hb : b.length = 32) (w : World) :
    (binOp .neq 32 (.agg (descC id m q k r b).toArray) (.agg (descC id m q k r b).toArray)).run Tryd.prog w = .ok (.bool false) w := by
  rw [run_neq_struct, desc_same id m q k r b hk hr hb w]; rfl
theorem desc_eql (id m q : Int) (k r b : List Int) (hk : k.length = 32) (hr : r.length = 32) (hb : b.length = 32) (w : World) :
    (binOp .eql 32 (.agg (descC id m q k r b).toArray) (.agg (descC id m q k r b).toArray)).run Tryd.prog w = .ok (.bool true) w := by
  rw [run_eql_struct, desc_same id m q k r b hk hr hb w]; rfl
end Go.Proofs.YtlikinglgegclaaDoor
/- stream.Count. -/
namespace Go.Proofs.YtlikinglgegclaaDoor
open Go.RowKit Go.Cour
attribute [local go_sem] max2_int min2_int
/-- How many chunks: of whole ones, one more if they are too few, one at least. -/
def countD (p d e : Int) : Int := max (if e < p then d + 1 else d) 1
def countI (p q : Int) : Int := countD p (max p 0 / max q 1) (max p 0 / max q 1 * max q 1)
set_option maxHeartbeats 400000 in
theorem count_calls (p q : Int) (w : World) (hp : -1000000 ≤ p ∧ p ≤ 1000000) (hq : -1000000 ≤ q ∧ q ≤ 1000000) :
    Calls Tryd.prog 61 #[.int .i64 p, .int .i64 q] w fun e w' => e = .returned (.int .i64 (countI p q)) ∧ w' = w := by
  obtain ⟨c, hc⟩ : ∃ c : Int, c = max q 1 := ⟨_, rfl⟩
  obtain ⟨s, hs⟩ : ∃ s : Int, s = max p 0 := ⟨_, rfl⟩
  obtain ⟨d, hd⟩ : ∃ d : Int, d = s / c := ⟨_, rfl⟩
  obtain ⟨e, he⟩ : ∃ e : Int, e = d * c := ⟨_, rfl⟩
  have c1 : 1 ≤ c := by omega
  have c2 : c ≤ 1000000 := by omega
  have s1 : 0 ≤ s := by omega
  have s2 : s ≤ 1000000 := by omega
  have d0 : 0 ≤ d := hd ▸ Int.ediv_nonneg s1 (by omega)
  have d1 : d ≤ s := hd ▸ Int.ediv_le_self _ s1
  have e0 : 0 ≤ e := he ▸ Int.mul_nonneg d0 (by omega)
  have e1 : e ≤ s := he ▸ hd ▸ Int.ediv_mul_le _ (by omega)
  have hcount : countI p q = countD p d e := by rw [countI, ← hs, ← hc, ← hd, ← he]
  have m1 : (if q < 1 then (1 : Int) else q) = c := by split <;> omega
  have m2 : (if p < 0 then (0 : Int) else p) = s := by split <;> omega
  have w1 : wrap64 (s.tdiv c) = d := by rw [Int.tdiv_eq_ediv_of_nonneg s1, ← hd]; exact IntWalk.wrap64_in _ (by omega)
  have w2 : wrap64 (d * c) = e := by rw [← he]; exact IntWalk.wrap64_in _ (by omega)
  have w3 : wrap64 (d + 1) = d + 1 := by exact IntWalk.wrap64_in _ (by omega)
  rw [hcount]
  have w6 : d = 0 → e = 0 := fun h => by rw [he, h, Int.zero_mul]
  have w0 : p < 0 → s = 0 ∧ d = 0 ∧ e = 0 := fun h => by
    have : s = 0 := by omega
    subst this
    have : d = 0 := by rw [hd, Int.zero_ediv]
    subst this
    exact ⟨rfl, rfl, by rw [he, Int.zero_mul]⟩
  have w4 : 0 ≤ p → p / c = d := fun h => by rw [hd]; congr 1; omega
  clear hcount hd he hs hc
  unfold countD
  by_cases h0 : 0 ≤ p
  · have w5 := w4 h0
    clear w0 w4
    by_cases hlt : e < p
    · by_cases h1 : 1 ≤ d
      · have m3 : max (if e < p then d + 1 else d) 1 = d + 1 := by rw [if_pos hlt]; omega
        rw [m3]
        go_enter Tryd.func61, Tryd.ntmps61
        go_wp2_with fail
        go_ret
        exact ⟨rfl, rfl⟩
      · obtain rfl : d = 0 := by omega
        obtain rfl := w6 rfl
        have m3 : max (if 0 < p then (0 : Int) + 1 else 0) 1 = 1 := by rw [if_pos hlt]; omega
        rw [m3]
        go_enter Tryd.func61, Tryd.ntmps61
        go_wp2_with fail
        go_ret
        exact ⟨rfl, rfl⟩
    · by_cases h1 : 1 ≤ d
      · have m3 : max (if e < p then d + 1 else d) 1 = d := by rw [if_neg hlt]; omega
        rw [m3]
        go_enter Tryd.func61, Tryd.ntmps61
        go_wp2_with fail
        go_ret
        exact ⟨rfl, rfl⟩
      · obtain rfl : d = 0 := by omega
        obtain rfl := w6 rfl
        have m3 : max (if 0 < p then (0 : Int) + 1 else 0) 1 = 1 := by rw [if_neg hlt]; omega
        rw [m3]
        go_enter Tryd.func61, Tryd.ntmps61
        go_wp2_with fail
        go_ret
        exact ⟨rfl, rfl⟩
  · obtain ⟨rfl, rfl, rfl⟩ := w0 (by omega)
    clear w0 w4 w6
    have m3 : max (if (0 : Int) < p then (0 : Int) + 1 else 0) 1 = 1 := by rw [if_neg (by omega)]; omega
    rw [m3]
    go_enter Tryd.func61, Tryd.ntmps61
    go_wp2_with fail
    go_ret
    exact ⟨rfl, rfl⟩
end Go.Proofs.YtlikinglgegclaaDoor
/- A region that draws its order: reads; soft acts (they make memory, and leave all that is there); hard ones. -/
namespace Go.Cour
open Go.RowKit
theorem mem_iff {w : World} : ∀ {L : List Ent}, Mem w L ↔ (∀ e ∈ L, e.p w) ∧ L.Pairwise (fun e f => ∀ k, e.F k → ¬ f.F k)
  | [] => by simp [Mem]
  | e :: L => by
    simp only [Mem, mem_iff, List.mem_cons, List.pairwise_cons, forall_eq_or_imp]
    constructor
    · rintro ⟨h1, h2, h3, h4⟩; exact ⟨⟨h1, h3⟩, h2, h4⟩
    · rintro ⟨⟨h1, h3⟩, h2, h4⟩; exact ⟨h1, h2, h3, h4⟩
theorem Mem.perm {w : World} {L L' : List Ent} (h : Mem w L) (hp : L.Perm L') : Mem w L' := by
  rw [mem_iff] at h ⊢
  exact ⟨fun e he => h.1 e (hp.mem_iff.2 he), hp.pairwise h.2 fun {e f} hef k hf he => hef k he hf⟩
section
variable {F : Nat → Prop} {w0 w w' : World} {L L' E : List Ent}
theorem HS.perm (h : HS F w0 w L) (hp : L.Perm L') : HS F w0 w L' := ⟨h.upd, h.mem.perm hp, fun e he => h.own e (hp.mem_iff.2 he)⟩
theorem HS.sub (h : HS F w0 w L) (hs : L'.Sublist L) : HS F w0 w L' :=
  ⟨h.upd, mem_iff.2 ⟨fun e he => (mem_iff.1 h.mem).1 e (hs.mem he), (mem_iff.1 h.mem).2.sublist hs⟩, fun e he => h.own e (hs.mem he)⟩
theorem HS.drop2 (h : HS F w0 w (E ++ L)) : HS F w0 w L := h.sub (List.sublist_append_right _ _)
/-- New things beside all that is there. -/
theorem HS.beside (h : HS F w0 w L) (hb : Below w.heap.size w w') (hE : HS F w0 w' (E ++ L')) (hn : ∀ e ∈ E, ∀ k, e.F k → w.heap.size ≤ k) : HS F w0 w' (E ++ L) := by
  have h1 := h.below hb
  have hE1 := hE.sub (List.sublist_append_left E L')
  refine ⟨h1.upd, mem_iff.2 ⟨fun e he => ?_, List.pairwise_append.2 ⟨(mem_iff.1 hE1.mem).2, (mem_iff.1 h1.mem).2, fun e he f hf k hk hfk => ?_⟩⟩, fun e he => ?_⟩
  · rcases List.mem_append.1 he with he | he
    · exact (mem_iff.1 hE1.mem).1 e he
    · exact (mem_iff.1 h1.mem).1 e he
  · have := hn e he k hk; have := h.mem.lt hf k hfk; omega
  · rcases List.mem_append.1 he with he | he
    · exact hE1.own e he
    · exact h1.own e he
end
/-- A call that changes some of the things, and lays others in their place. -/
theorem HS.call {F G : Nat → Prop} {w0 w w' : World} {A B L : List Ent} (h : HS F w0 w (A ++ L)) (hc : HS G w w' B) (hG : ∀ k, G k → ∃ e ∈ A, e.F k) : HS F w0 w' (B ++ L) := by
  have hdis := (List.pairwise_append.1 (mem_iff.1 h.mem).2).2.2
  have hkeep : ∀ k, k < w.heap.size → ¬ G k → w'.heap[k]? = w.heap[k]? := hc.upd.block
  refine ⟨⟨hc.upd.os.trans h.upd.os, hc.upd.tape.trans h.upd.tape, hc.upd.output.trans h.upd.output, Nat.le_trans h.size hc.size, fun k hk hf => ?_⟩, mem_iff.2 ⟨fun e he => ?_, List.pairwise_append.2 ⟨(mem_iff.1 hc.mem).2, (mem_iff.1 h.drop2.mem).2, fun e he f hf k hk hfk => ?_⟩⟩, fun e he k hk => ?_⟩
  · refine (hkeep k (Nat.lt_of_lt_of_le hk h.size) fun hg => ?_).trans (h.upd.block k hk hf)
    obtain ⟨e, he, hek⟩ := hG k hg
    rcases h.own e (List.mem_append_left _ he) k hek with h1 | h1
    · exact hf h1
    · omega
  · rcases List.mem_append.1 he with he | he
    · exact (mem_iff.1 hc.mem).1 e he
    · refine e.kept ((mem_iff.1 h.mem).1 e (List.mem_append_right _ he)) fun k hk => hkeep k (h.mem.lt (List.mem_append_right _ he) k hk) fun hg => ?_
      obtain ⟨e', he', hek⟩ := hG k hg
      exact hdis e' he' e he k hek hk
  · rcases hc.own e he k hk with h1 | h1
    · obtain ⟨e', he', hek⟩ := hG k h1
      exact hdis e' he' f hf k hek hfk
    · have := h.mem.lt (List.mem_append_right _ hf) k hfk; omega
  · rcases List.mem_append.1 he with he | he
    · rcases hc.own e he k hk with h1 | h1
      · obtain ⟨e', he', hek⟩ := hG k h1
        exact h.own e' (List.mem_append_left _ he') k hek
      · exact .inr (Nat.le_trans h.size h1)
    · exact h.own e (List.mem_append_right _ he) k hk
/-- An operation's kind: 1 a soft act, 2 a hard one, 0 it reads. -/
def kdOf (sa hh : List Nat) (i : Nat) : Nat := if sa.contains i then 1 else if hh.contains i then 2 else 0
def okPair (sa hh : List Nat) (p i : Nat) : Bool := kdOf sa hh p == 0 || kdOf sa hh i == 0 || (kdOf sa hh p == 1 && kdOf sa hh i == 1)
section
variable (P : Program) (ops : Array Oper) (N : Act → World → Prop) (F : Nat → Prop) (w0 : World) (sa hh : List Nat) (K : Nat → Value → List Ent → Prop)
/-- What a soft act does. -/
def SoftQ (i : Nat) (L0 : List Ent) (w' : World) (u : Value) (w'' : World) : Prop := ∃ E, K i u E ∧ HS F w0 w'' (E ++ L0) ∧ Below w'.heap.size w' w'' ∧ ∀ e ∈ E, ∀ k, e.F k → w'.heap.size ≤ k
/-- The operations walked in the order of the text. -/
def wpS : List Ent → List Ent → List Nat → Act → Prop
  | L0, σ, [], a => ∀ w, HS F w0 w (σ ++ L0) → N a w
  | L0, σ, i :: rest, a => match ops[i]? with
    | none => False
    | some o =>
      if kdOf sa hh i = 0 then ∃ v, (∀ w', HS F w0 w' L0 → Rd1 P ops o a w' v) ∧ wpS L0 σ rest (a.put o.dst v)
      else if kdOf sa hh i = 1 then (∀ w', HS F w0 w' L0 → V1 P ops o a w' (SoftQ F w0 K i L0 w')) ∧ ∀ u E, K i u E → (∃ w, HS F w0 w (E ++ σ ++ L0)) → wpS L0 (E ++ σ) rest (a.put o.dst u)
      else ∀ w, HS F w0 w (σ ++ L0) → V1 P ops o a w fun u w' => if totB ops i then ∃ L1 σ', HS F w0 w' (σ' ++ L1) ∧ wpS L1 σ' rest (a.put o.dst u) else ∃ σ', HS F w0 w' (σ' ++ L0) ∧ wpS L0 σ' rest (a.put o.dst u)
def chkSOne (i : Nat) : Bool :=
  match ops[i]? with
  | none => true
  | some o => (o.after.all fun e => !Region.binds .any e || decide (e.on < i)) && !isSelect o.op &&
    (List.range i).all fun p => dirW ops i p || (match ops[p]? with | some q => q.apart ops o && okPair sa hh p i | none => true)
def chkS : Bool := (List.range ops.size).all (chkSOne ops sa hh)
structure ChkS : Prop where
  back : ∀ (i : Nat) (o : Oper), ops[i]? = some o → ∀ e ∈ o.after, Region.binds .any e = true → e.on < i
  sel : ∀ (i : Nat) (o : Oper), ops[i]? = some o → noSel o
  ahead : ∀ (i : Nat) (o : Oper), ops[i]? = some o → ∀ p q, p < i → ops[p]? = some q → waitsT ops 200 i p = true ∨ (q.apart ops o = true ∧ okPair sa hh p i = true)
end
section
variable {P : Program} {ops : Array Oper} {N : Act → World → Prop} {F : Nat → Prop} {w0 : World} {sa hh : List Nat} {K : Nat → Value → List Ent → Prop}
theorem chkS_spec (h : chkS ops sa hh = true) : ChkS ops sa hh := by
  have h1 : ∀ i o, ops[i]? = some o → ((o.after.all fun e => !Region.binds .any e || decide (e.on < i)) = true ∧ isSelect o.op = false) ∧
    ((List.range i).all fun p => dirW ops i p || (match ops[p]? with | some q => q.apart ops o && okPair sa hh p i | none => true)) = true := fun i o ho => by
    have := List.all_eq_true.1 h i (List.mem_range.2 (Array.getElem?_eq_some_iff.1 ho).1)
    unfold chkSOne at this
    simp only [ho, Bool.and_eq_true, Bool.not_eq_true'] at this
    exact this
  refine ⟨fun i o ho e he hb => ?_, fun i o ho cs b hs => ?_, fun i o ho p q hp hq => ?_⟩
  · have := Array.all_eq_true'.1 (h1 i o ho).1.1 e he
    simpa [hb] using this
  · have := (h1 i o ho).1.2
    rw [hs] at this
    simp [isSelect] at this
  · have := List.all_eq_true.1 (h1 i o ho).2 p (List.mem_range.2 hp)
    simp only [hq, Bool.or_eq_true, Bool.and_eq_true] at this
    rcases this with h2 | h2
    · exact .inl (dirW_waits h2)
    · exact .inr h2
theorem wpS_perm : ∀ (l : List Nat) {L0 σ σ' : List Ent} {a : Act}, wpS P ops N F w0 sa hh K L0 σ l a → σ.Perm σ' → wpS P ops N F w0 sa hh K L0 σ' l a
  | [], L0, σ, σ', a, h, hp => fun w hw => h w (hw.perm ((hp.symm).append_right _))
  | i :: rest, L0, σ, σ', a, h, hp => by
    simp only [wpS] at h ⊢
    cases ho : ops[i]? with
    | none => simp only [ho] at h
    | some o =>
      simp only [ho] at h ⊢
      split
      · rename_i h0
        rw [if_pos h0] at h
        obtain ⟨v, h1, h2⟩ := h
        exact ⟨v, h1, wpS_perm rest h2 hp⟩
      · rename_i h0
        rw [if_neg h0] at h
        split
        · rename_i h1
          rw [if_pos h1] at h
          refine ⟨h.1, fun u E hK ⟨w, hw⟩ => wpS_perm rest (h.2 u E hK ⟨w, hw.perm (((hp.symm).append_left E).append_right L0)⟩) (hp.append_left E)⟩
        · rename_i h1
          rw [if_neg h1] at h
          exact fun w hw => h w (hw.perm ((hp.symm).append_right _))
theorem wpS_pull (i : Nat) (o : Oper) (post : List Nat) (hi : ops[i]? = some o) (hso : noSel o) : ∀ (pre : List Nat) (L0 σ : List Ent) (a : Act), (∃ w, HS F w0 w (σ ++ L0)) → (pre ≠ [] → totB ops i = false) → (∀ j ∈ pre, totB ops j = false ∧ ∃ p, ops[j]? = some p ∧ p.apart ops o = true ∧ okPair sa hh j i = true ∧ noSel p) → wpS P ops N F w0 sa hh K L0 σ (pre ++ i :: post) a →
    wpS P ops N F w0 sa hh K L0 σ (i :: (pre ++ post)) a
  | [], L0, σ, a, _, _, _, h => h
  | j :: pre, L0, σ, a, hw, hti, hp, h => by
    obtain ⟨htj, p, hj, hap, hok, hsp⟩ := hp j (List.mem_cons_self ..)
    have hti' := hti (by simp)
    obtain ⟨s1, s2, s3⟩ := Oper.apart_spec hap
    have s4 : ∀ t, o.dst = some t → p.dst ≠ some t := fun t ht hpt => s2 t hpt ht
    have ih := fun σ a hw => wpS_pull i o post hi hso pre L0 σ a hw (fun _ => hti') (fun q hq => hp q (List.mem_cons_of_mem _ hq))
    simp only [List.cons_append, wpS, hj, hi, htj, hti', Bool.false_eq_true, if_false] at h ih ⊢
    obtain ⟨w, hw⟩ := hw
    have hwL := hw.drop2
    by_cases kp0 : kdOf sa hh j = 0
    · rw [if_pos kp0] at h
      obtain ⟨vp, hvp, h⟩ := h
      have h2 := ih σ _ ⟨w, hw⟩ h
      by_cases ko0 : kdOf sa hh i = 0
      · rw [if_pos ko0] at h2 ⊢
        obtain ⟨v, hv, h3⟩ := h2
        refine ⟨v, fun w' hw' => (Rd1.put vp s1 s2 hso).1 (hv w' hw'), ?_⟩
        rw [if_pos kp0]
        refine ⟨vp, fun w' hw' => (Rd1.put v s3 s4 hsp).2 (hvp w' hw'), ?_⟩
        rw [← Act.put_comm a vp v s2]; exact h3
      · rw [if_neg ko0] at h2 ⊢
        by_cases ko1 : kdOf sa hh i = 1
        · rw [if_pos ko1] at h2 ⊢
          refine ⟨fun w' hw' => (V1.put vp s1 hso).1 (h2.1 w' hw'), fun u E hK hx => ?_⟩
          rw [if_pos kp0]
          refine ⟨vp, fun w'' hw'' => (Rd1.put u s3 s4 hsp).2 (hvp w'' hw''), ?_⟩
          rw [← Act.put_comm a vp u s2]; exact h2.2 u E hK hx
        · rw [if_neg ko1] at h2 ⊢
          intro w1 hw1
          refine ((V1.put vp s1 hso).1 (h2 w1 hw1)).mono fun u w' ⟨σ', h3, h4⟩ => ⟨σ', h3, ?_⟩
          rw [if_pos kp0]
          refine ⟨vp, fun w'' hw'' => (Rd1.put u s3 s4 hsp).2 (hvp w'' hw''), ?_⟩
          rw [← Act.put_comm a vp u s2]; exact h4
    · rw [if_neg kp0] at h
      by_cases kp1 : kdOf sa hh j = 1
      · rw [if_pos kp1] at h
        obtain ⟨hv1, hk⟩ := h
        obtain ⟨u0, w1, E0, hK0, hE0, hb0, hn0⟩ := (hv1 w hwL).ex
        have hx0 : HS F w0 w1 (E0 ++ (σ ++ L0)) := hw.beside hb0 hE0 hn0
        have hx0' : ∃ w, HS F w0 w (E0 ++ σ ++ L0) := ⟨w1, by rw [List.append_assoc]; exact hx0⟩
        by_cases ko0 : kdOf sa hh i = 0
        · rw [if_pos ko0]
          have h5 := ih _ _ hx0' (hk u0 E0 hK0 hx0')
          rw [if_pos ko0] at h5
          obtain ⟨v0, hv0, _⟩ := h5
          refine ⟨v0, fun w' hw' => (Rd1.put u0 s1 s2 hso).1 (hv0 w' hw'), ?_⟩
          rw [if_neg kp0, if_pos kp1]
          refine ⟨fun w' hw' => (V1.put v0 s3 hsp).2 (hv1 w' hw'), fun u E hK hx => ?_⟩
          have h6 := ih _ _ hx (hk u E hK hx)
          rw [if_pos ko0] at h6
          obtain ⟨v, hv, h7⟩ := h6
          have hvv : a.put o.dst v = a.put o.dst v0 := ((Rd1.put u s1 s2 hso).1 (hv w hwL)).det ((Rd1.put u0 s1 s2 hso).1 (hv0 w hwL))
          rw [Act.put_comm a u v s2, hvv] at h7
          exact h7
        · rw [if_neg ko0]
          have ko1 : kdOf sa hh i = 1 := by
            unfold okPair at hok
            simp only [Bool.or_eq_true, Bool.and_eq_true, beq_iff_eq] at hok
            rcases hok with (h1 | h1) | h1
            · exact absurd h1 kp0
            · exact absurd h1 ko0
            · exact h1.2
          rw [if_pos ko1]
          have h5 := ih _ _ hx0' (hk u0 E0 hK0 hx0')
          rw [if_neg ko0, if_pos ko1] at h5
          refine ⟨fun w' hw' => (V1.put u0 s1 hso).1 (h5.1 w' hw'), fun v Eo hKo hxo => ?_⟩
          rw [if_neg kp0, if_pos kp1]
          refine ⟨fun w' hw' => (V1.put v s3 hsp).2 (hv1 w' hw'), fun u E hK ⟨w2, hw2⟩ => ?_⟩
          have hpm : (E ++ (Eo ++ σ)).Perm (Eo ++ (E ++ σ)) := by
            rw [← List.append_assoc, ← List.append_assoc]; exact List.perm_append_comm.append_right σ
          have hw3 : HS F w0 w2 (Eo ++ (E ++ σ) ++ L0) := hw2.perm (hpm.append_right L0)
          have hx : ∃ w, HS F w0 w (E ++ σ ++ L0) := ⟨w2, by rw [List.append_assoc Eo] at hw3; exact hw3.drop2⟩
          have h6 := ih _ _ hx (hk u E hK hx)
          rw [if_neg ko0, if_pos ko1] at h6
          have h7 := h6.2 v Eo hKo ⟨w2, hw3⟩
          rw [Act.put_comm a u v s2] at h7
          exact wpS_perm _ h7 hpm.symm
      · rw [if_neg kp1] at h
        have ko0 : kdOf sa hh i = 0 := by
          unfold okPair at hok
          simp only [Bool.or_eq_true, Bool.and_eq_true, beq_iff_eq] at hok
          rcases hok with (h1 | h1) | h1
          · exact absurd h1 kp0
          · exact h1
          · exact absurd h1.1 kp1
        rw [if_pos ko0]
        have h2 : ∀ w, HS F w0 w (σ ++ L0) → V1 P ops p a w fun u w' => ∃ σ', HS F w0 w' (σ' ++ L0) ∧ ∃ v, (∀ w'', HS F w0 w'' L0 → Rd1 P ops o a w'' v) ∧ wpS P ops N F w0 sa hh K L0 σ' (pre ++ post) ((a.put p.dst u).put o.dst v) := fun w1 hw1 => (h w1 hw1).mono fun u w' ⟨σ', h3, h4⟩ => by
          have h5 := ih _ _ ⟨w', h3⟩ h4
          rw [if_pos ko0] at h5
          obtain ⟨v, hv, h6⟩ := h5
          exact ⟨σ', h3, v, fun w'' hw'' => (Rd1.put u s1 s2 hso).1 (hv w'' hw''), h6⟩
        obtain ⟨u0, w1, σ0, hT0, v0, hv0, _⟩ := (h2 w hw).ex
        refine ⟨v0, hv0, ?_⟩
        rw [if_neg kp0, if_neg kp1]
        intro w2 hw2
        refine (V1.put v0 s3 hsp).2 ((h2 w2 hw2).mono fun u w' ⟨σ', h3, v, hv, h4⟩ => ⟨σ', h3, ?_⟩)
        rw [Act.put_comm a u v s2, (hv w' h3.drop2).det (hv0 w' h3.drop2)] at h4
        exact h4
theorem wpAny_S {Q : Exit → Act → World → Prop} (hN : ∀ a w, N a w → Q .normal a w) (hc : ChkS ops sa hh) : ∀ (fuel : Nat) (listed : Array Bool) (L0 σ : List Ent) (a : Act) (w : World), HS F w0 w (σ ++ L0) → listed.size = ops.size → Closed ops listed → (rem ops listed).length ≤ fuel →
    wpS P ops N F w0 sa hh K L0 σ (rem ops listed) a → wpAny P .any ops Q fuel listed a w := by
  have fin : ∀ (listed : Array Bool) (L0 σ : List Ent) (a : Act) (w : World), HS F w0 w (σ ++ L0) → listed.size = ops.size → Region.ready .any ops listed = [] → wpS P ops N F w0 sa hh K L0 σ (rem ops listed) a → Q .normal a w := fun listed L0 σ a w hw hl hr h => by
    have hall : ∀ n j, j < n → j < ops.size → listed.getD j false = true := fun n => by
      induction n with
      | zero => intro j hj; omega
      | succ n ih =>
        intro j hj hlt
        by_cases hjn : j < n
        · exact ih j hjn hlt
        · have hjn' : j = n := by omega
          subst hjn'
          cases hlj : listed.getD j false with
          | true => rfl
          | false =>
            have hun := getD_in (by rw [hl]; exact hlt) hlj
            have ho : ops[j]? = some ops[j] := Array.getElem?_eq_getElem hlt
            have : j ∈ Region.ready .any ops listed := mem_ready.2 ⟨hun, ops[j], ho, fun e he hb => ih e.on (hc.back j _ ho e he hb) (by have := hc.back j _ ho e he hb; omega)⟩
            rw [hr] at this
            cases this
    have hre : rem ops listed = [] := List.filter_eq_nil_iff.2 fun j hj => by
      have := hall (j + 1) j (by omega) (List.mem_range.1 hj)
      unfold unl
      cases h2 : listed.getD j true with
      | true => simp
      | false => rw [getD_both h2] at this; cases this
    rw [hre] at h
    exact hN _ _ (h w hw)
  intro fuel
  induction fuel with
  | zero =>
    intro listed L0 σ a w hT hl hcl hf h
    have hr : Region.ready .any ops listed = [] := by
      rcases hx : Region.ready .any ops listed with _ | ⟨i, l⟩
      · rfl
      · have hm : i ∈ Region.ready .any ops listed := by rw [hx]; exact List.mem_cons_self ..
        obtain ⟨hun, o, ho, _⟩ := mem_ready.1 hm
        have h1 : i ∈ rem ops listed := List.mem_filter.2 ⟨List.mem_range.2 (Array.getElem?_eq_some_iff.1 ho).1, by simp [unl, hun]⟩
        have h2 := List.length_eq_zero_iff.1 (Nat.le_zero.1 hf)
        rw [h2] at h1
        cases h1
    exact ⟨hr, fin listed L0 σ a w hT hl hr h⟩
  | succ fuel ih =>
    intro listed L0 σ a w hT hl hcl hf h
    refine ⟨fun hr => fin listed L0 σ a w hT hl hr h, fun i hir => ?_⟩
    obtain ⟨hun, o, ho, hall⟩ := mem_ready.1 hir
    have hlt := (Array.getElem?_eq_some_iff.1 ho).1
    have him : i ∈ rem ops listed := List.mem_filter.2 ⟨List.mem_range.2 hlt, by simp [unl, hun]⟩
    obtain ⟨s, t, hst⟩ := List.append_of_mem him
    have hpw : (s ++ i :: t).Pairwise (· < ·) := by
      rw [← hst]; exact List.Pairwise.filter _ List.pairwise_lt_range
    have hrem : rem ops (listed.setIfInBounds i true) = s ++ t := by
      rw [← filter_ne_mid hpw, ← hst]
      unfold rem
      rw [List.filter_filter]
      refine List.filter_congr fun j hj => ?_
      unfold unl
      by_cases hij : i = j
      · subst hij
        have h0 : i < listed.size := by rw [hl]; exact hlt
        simp [h0]
      · rw [getD_set_ne true hij]
        simp [Ne.symm hij]
    have hlate : ∀ k ∈ s, waitsT ops 200 i k = true → False := fun k hk hw => by
      have hki : k < i := (List.pairwise_append.1 hpw).2.2 k hk i (List.mem_cons_self ..)
      have hku : k ∈ rem ops listed := by rw [hst]; exact List.mem_append_left _ hk
      have hkun : listed.getD k true = false := by
        have := (List.mem_filter.1 hku).2
        simpa [unl] using this
      have : waitsT ops 200 i k = true := hw
      unfold waitsT at this
      rw [Bool.or_eq_true] at this
      rcases this with h3 | h3
      · have : i = k := by simpa using h3
        omega
      · simp only [ho] at h3
        obtain ⟨e, he, hb⟩ := Array.any_eq_true'.1 h3
        simp only [Bool.and_eq_true] at hb
        have h4 := hcl.waits hl 199 e.on k hb.2 (by have := hc.back i o ho e he hb.1; omega) (hall e he hb.1)
        rw [getD_both hkun] at h4
        cases h4
    have hpre : ∀ j ∈ s, totB ops j = false ∧ ∃ p, ops[j]? = some p ∧ p.apart ops o = true ∧ okPair sa hh j i = true ∧ noSel p := fun k hk => by
      have hki : k < i := (List.pairwise_append.1 hpw).2.2 k hk i (List.mem_cons_self ..)
      have hks : k < ops.size := by omega
      have hkp : ops[k]? = some ops[k] := Array.getElem?_eq_getElem hks
      refine ⟨?_, ops[k], hkp, ?_⟩
      · cases htk : totB ops k with
        | false => rfl
        | true => exact (hlate k hk ((totB_spec htk i hlt).2 hki)).elim
      · rcases hc.ahead i o ho k _ hki hkp with hw | ⟨h1, h2⟩
        · exact (hlate k hk hw).elim
        · exact ⟨h1, h2, hc.sel k _ hkp⟩
    have hti : s ≠ [] → totB ops i = false := fun hs => by
      cases hti : totB ops i with
      | false => rfl
      | true =>
        obtain ⟨k, hk⟩ := List.exists_mem_of_ne_nil s hs
        have hki : k < i := (List.pairwise_append.1 hpw).2.2 k hk i (List.mem_cons_self ..)
        exact (hlate k hk ((totB_spec hti k (by omega)).1 hki)).elim
    rw [hst] at h
    have hpull := wpS_pull i o t ho (hc.sel i o ho) s L0 σ a ⟨w, hT⟩ hti hpre h
    rw [← hrem] at hpull
    simp only [wpS, ho] at hpull
    have hcl' : Closed ops (listed.setIfInBounds i true) := fun j oj hj hl' e he hb => by
      by_cases hij : i = j
      · subst hij
        have : oj = o := Option.some.inj (hj.symm.trans ho)
        subst this
        exact getD_set_true (hall e he hb)
      · rw [getD_set_ne false hij] at hl'
        exact getD_set_true (hcl j oj hj hl' e he hb)
    have hlen : (rem ops (listed.setIfInBounds i true)).length ≤ fuel := by
      rw [hrem]; rw [hst] at hf; simp at hf ⊢; omega
    have next : ∀ (L1 σ' : List Ent) u w', HS F w0 w' (σ' ++ L1) → wpS P ops N F w0 sa hh K L1 σ' (rem ops (listed.setIfInBounds i true)) (a.put o.dst u) → wpAny P .any ops Q fuel (listed.setIfInBounds i true) (a.put o.dst u) w' := fun L1 σ' u w' hT' h' =>
      ih _ _ _ _ _ hT' (by simp [hl]) hcl' hlen h'
    unfold wpOp
    simp only [ho]
    by_cases ko0 : kdOf sa hh i = 0
    · rw [if_pos ko0] at hpull
      obtain ⟨v, hv, h2⟩ := hpull
      have h3 := hv w hT.drop2
      unfold Rd1 at h3
      split at h3 <;> rename_i hw
      · rw [if_pos hw]
        obtain ⟨u, h4, h5⟩ := h3
        refine .inl ?_
        unfold Oper.wp
        rw [h4]
        rw [← h5] at h2
        exact next L0 σ u w hT h2
      · rw [if_neg hw]
        rw [← h3] at h2
        exact next L0 σ _ w hT h2
    · rw [if_neg ko0] at hpull
      have hV : V1 P ops o a w fun u w' => ∃ L1 σ', HS F w0 w' (σ' ++ L1) ∧ wpS P ops N F w0 sa hh K L1 σ' (rem ops (listed.setIfInBounds i true)) (a.put o.dst u) := by
        by_cases ko1 : kdOf sa hh i = 1
        · rw [if_pos ko1] at hpull
          refine (hpull.1 w hT.drop2).mono fun u w' ⟨E, hK, hE, hb, hn⟩ => ?_
          have hx : HS F w0 w' (E ++ σ ++ L0) := by rw [List.append_assoc]; exact hT.beside hb hE hn
          exact ⟨L0, E ++ σ, hx, hpull.2 u E hK ⟨w', hx⟩⟩
        · rw [if_neg ko1] at hpull
          refine (hpull w hT).mono fun u w' hu => ?_
          split at hu
          · exact hu
          · obtain ⟨σ', h1, h2⟩ := hu; exact ⟨L0, σ', h1, h2⟩
      have nextA : ∀ u w', (∃ L1 σ', HS F w0 w' (σ' ++ L1) ∧ wpS P ops N F w0 sa hh K L1 σ' (rem ops (listed.setIfInBounds i true)) (a.put o.dst u)) → wpAny P .any ops Q fuel (listed.setIfInBounds i true) (a.put o.dst u) w' := fun u w' ⟨L1, σ', h1, h2⟩ => next L1 σ' u w' h1 h2
      unfold V1 at hV
      split at hV <;> rename_i hw
      · rw [if_pos hw]
        refine .inl ?_
        unfold Oper.wp
        revert hV
        cases (execOp a.eval o).run P w with
        | halt x w' => exact fun h => h.elim
        | ok n w' =>
          cases n <;> intro h <;> first | exact h.elim | exact nextA _ _ h | skip
          case enter f args =>
            refine Calls.mono h fun e w'' he => ?_
            obtain ⟨v, rfl, h1⟩ := he
            exact nextA v w'' h1
          case row row args => exact Rows.mono h fun u w'' hu => nextA u w'' hu
      · rw [if_neg hw]
        exact nextA _ w hV
/-- A region that draws its order. -/
theorem wp_region_S {id : Nat} {a : Act} {w : World} {Q : Exit → Act → World → Prop} (sa hh : List Nat) (K : Nat → Value → List Ent → Prop) {L0 : List Ent} (σ : List Ent) (hm : P.follows .mixedOrders = true) (hc : chkS ops sa hh = true) (h0 : HS F w0 w (σ ++ L0))
    (h : wpS P ops (fun a' w' => Q .normal a' w') F w0 sa hh K L0 σ (List.range ops.size) a) : (Code.region id ops true).wp P Q a w := by
  refine wp_region_any hm (wpAny_S (K := K) (N := fun a' w' => Q .normal a' w') (fun _ _ h => h) (chkS_spec hc) ops.size _ L0 σ a _ h0.drew (by simp) ?_ ?_ ?_)
  · intro j oj _ hl; rw [getD_replicate_false] at hl; cases hl
  · exact Nat.le_trans (List.length_filter_le _ _) (by simp)
  · have h1 : rem ops (Array.replicate ops.size false) = List.range ops.size := List.filter_eq_self.2 fun j hj => by
      simp [unl, Array.getD, List.mem_range.1 hj]
    rw [h1]; exact h
/-- One that reads. -/
theorem wpS_read {L0 σ : List Ent} {i : Nat} {o : Oper} {rest : List Nat} {a A : Act} (hi : ops[i]? = some o) (hk0 : kdOf sa hh i = 0) (hx : ∃ w, HS F w0 w L0) (hk : readK o.op = true) (h1 : ∀ w', HS F w0 w' L0 → wpList P ops (fun ex a' w'' => ex = .normal ∧ a' = A ∧ w'' = w') [o] a w') (h2 : wpS P ops N F w0 sa hh K L0 σ rest A) : wpS P ops N F w0 sa hh K L0 σ (i :: rest) a := by
  have hv : ∀ w', HS F w0 w' L0 → ∃ u, A = a.put o.dst u ∧ Rd1 P ops o a w' u := fun w' hw' => by
    have h := h1 w' hw'
    simp only [wpList] at h
    unfold Rd1
    split at h <;> rename_i hw
    · rcases h with h | ⟨_, _, _, hf, _⟩
      case inr => cases hf
      unfold Oper.wp at h
      cases hx : (execOp a.eval o).run P w' with
      | halt x w1 =>
        rw [hx] at h
        cases x <;> simp [Oper.upon] at h
      | ok n w1 =>
        obtain ⟨u, rfl⟩ := readK_value hk hx
        rw [hx] at h
        simp only [Oper.upon] at h
        obtain ⟨_, h3, h4⟩ := h
        subst h4
        exact ⟨u, h3.symm, by rw [if_pos hw]; exact ⟨u, rfl, rfl⟩⟩
    · exact ⟨undef, h.2.1.symm, by rw [if_neg hw]⟩
  obtain ⟨w, hw⟩ := hx
  obtain ⟨v, hA, _⟩ := hv w hw
  simp only [wpS, hi]
  rw [if_pos hk0]
  refine ⟨v, fun w' hw' => ?_, hA ▸ h2⟩
  obtain ⟨u, hu, hr⟩ := hv w' hw'
  have he : a.put o.dst u = a.put o.dst v := hu.symm.trans hA
  unfold Rd1 at *
  split at hr <;> rename_i hw
  · rw [if_pos hw]; obtain ⟨x, h3, h4⟩ := hr; exact ⟨x, h3, h4.trans he⟩
  · rw [if_neg hw]; exact hr.trans he
/-- What stands behind a soft act. -/
structure SoftP (F : Nat → Prop) (w0 : World) (K : Nat → Value → List Ent → Prop) (i : Nat) (L0 : List Ent) (t : Nat) (a : Act) (w : World) (ex : Exit) (a' : Act) (w' : World) : Prop where
  ex : ex = .normal
  defers : a'.defers = a.defers
  val : ∃ u E, a' = a.put (some t) u ∧ K i u E ∧ HS F w0 w' (E ++ L0) ∧ Below w.heap.size w w' ∧ ∀ e ∈ E, ∀ k, e.F k → w.heap.size ≤ k
theorem SoftP.mk' {i t : Nat} {L0 : List Ent} {a a' : Act} {w w' : World} (u : Value) (E : List Ent) (ha : a' = a.put (some t) u) (hK : K i u E) (hE : HS F w0 w' (E ++ L0)) (hb : Below w.heap.size w w') (hn : ∀ e ∈ E, ∀ k, e.F k → w.heap.size ≤ k) : SoftP F w0 K i L0 t a w .normal a' w' :=
  ⟨rfl, by rw [ha, put_defers], u, E, ha, hK, hE, hb, hn⟩
theorem wpS_soft {L0 σ : List Ent} {i t : Nat} {o : Oper} {rest : List Nat} {a : Act} (hi : ops[i]? = some o) (hk1 : kdOf sa hh i = 1) (hd : o.dst = some t) (ht : t < a.tmps.size) (h1 : ∀ w', HS F w0 w' L0 → wpList P ops (SoftP F w0 K i L0 t a w') [o] a w')
    (h2 : ∀ u E, K i u E → wpS P ops N F w0 sa hh K L0 (E ++ σ) rest (a.put (some t) u)) : wpS P ops N F w0 sa hh K L0 σ (i :: rest) a := by
  simp only [wpS, hi]
  rw [if_neg (by rw [hk1]; decide), if_pos hk1, hd]
  refine ⟨fun w' hw' => ?_, fun u E hK _ => h2 u E hK⟩
  refine (V1_of (K := fun a' w'' => ∃ u E, a' = a.put (some t) u ∧ K i u E ∧ HS F w0 w'' (E ++ L0) ∧ Below w'.heap.size w' w'' ∧ ∀ e ∈ E, ∀ k, e.F k → w'.heap.size ≤ k) ?_).mono fun u w'' hu => ?_
  · have h := h1 w' hw'
    have he : SoftP F w0 K i L0 t a w' = fun ex a' w'' => ex = .normal ∧ a'.defers = a.defers ∧ ∃ u E, a' = a.put (some t) u ∧ K i u E ∧ HS F w0 w'' (E ++ L0) ∧ Below w'.heap.size w' w'' ∧ ∀ e ∈ E, ∀ k, e.F k → w'.heap.size ≤ k := by
      funext ex a' w''
      exact propext ⟨fun h => ⟨h.1, h.2, h.3⟩, fun ⟨h1, h2, h3⟩ => ⟨h1, h2, h3⟩⟩
    rwa [he] at h
  · obtain ⟨u', E, he, hK, r⟩ := hu
    rw [hd] at he
    have h4 := put_same a t u ht
    rw [he, put_same a t u' ht] at h4
    injection h4 with h4
    subst h4
    exact ⟨E, hK, r⟩
/-- What stands behind a hard act. -/
structure HardP (P : Program) (ops : Array Oper) (N : Act → World → Prop) (F : Nat → Prop) (w0 : World) (sa hh : List Nat) (K : Nat → Value → List Ent → Prop) (L0 : List Ent) (rest : List Nat) (a : Act) (ex : Exit) (a' : Act) (w' : World) : Prop where
  ex : ex = .normal
  defers : a'.defers = a.defers
  val : ∃ σ', HS F w0 w' (σ' ++ L0) ∧ wpS P ops N F w0 sa hh K L0 σ' rest a'
structure TotP (P : Program) (ops : Array Oper) (N : Act → World → Prop) (F : Nat → Prop) (w0 : World) (sa hh : List Nat) (K : Nat → Value → List Ent → Prop) (rest : List Nat) (a : Act) (ex : Exit) (a' : Act) (w' : World) : Prop where
  ex : ex = .normal
  defers : a'.defers = a.defers
  val : ∃ L1 σ', HS F w0 w' (σ' ++ L1) ∧ wpS P ops N F w0 sa hh K L1 σ' rest a'
theorem HardP.mk' {L0 : List Ent} {rest : List Nat} {a a' : Act} {w' : World} (σ' : List Ent) (hd : a'.defers = a.defers) (h1 : HS F w0 w' (σ' ++ L0)) (h2 : wpS P ops N F w0 sa hh K L0 σ' rest a') : HardP P ops N F w0 sa hh K L0 rest a .normal a' w' := ⟨rfl, hd, σ', h1, h2⟩
theorem TotP.mk' {rest : List Nat} {a a' : Act} {w' : World} (L1 : List Ent) (hd : a'.defers = a.defers) (h1 : HS F w0 w' L1) (h2 : wpS P ops N F w0 sa hh K L1 [] rest a') : TotP P ops N F w0 sa hh K rest a .normal a' w' := ⟨rfl, hd, L1, [], h1, h2⟩
theorem wpS_hard {L0 σ : List Ent} {i : Nat} {o : Oper} {rest : List Nat} {a : Act} (hi : ops[i]? = some o) (hk2 : kdOf sa hh i = 2) (h1 : ∀ w, HS F w0 w (σ ++ L0) → wpList P ops (HardP P ops N F w0 sa hh K L0 rest a) [o] a w) : wpS P ops N F w0 sa hh K L0 σ (i :: rest) a := by
  simp only [wpS, hi]
  rw [if_neg (by rw [hk2]; decide), if_neg (by rw [hk2]; decide)]
  intro w hw
  refine (V1_of (K := fun a' w' => ∃ σ', HS F w0 w' (σ' ++ L0) ∧ wpS P ops N F w0 sa hh K L0 σ' rest a') ?_).mono fun u w' hu => ?_
  · have h := h1 w hw
    have he : HardP P ops N F w0 sa hh K L0 rest a = fun ex a' w' => ex = .normal ∧ a'.defers = a.defers ∧ ∃ σ', HS F w0 w' (σ' ++ L0) ∧ wpS P ops N F w0 sa hh K L0 σ' rest a' := by
      funext ex a' w''
      exact propext ⟨fun h => ⟨h.1, h.2, h.3⟩, fun ⟨h1, h2, h3⟩ => ⟨h1, h2, h3⟩⟩
    rwa [he] at h
  · split
    · obtain ⟨σ', h1, h2⟩ := hu; exact ⟨L0, σ', h1, h2⟩
    · exact hu
theorem wpS_tot {L0 σ : List Ent} {i : Nat} {o : Oper} {rest : List Nat} {a : Act} (hi : ops[i]? = some o) (hk2 : kdOf sa hh i = 2) (ht : totB ops i = true) (h1 : ∀ w, HS F w0 w (σ ++ L0) → wpList P ops (TotP P ops N F w0 sa hh K rest a) [o] a w) : wpS P ops N F w0 sa hh K L0 σ (i :: rest) a := by
  simp only [wpS, hi]
  rw [if_neg (by rw [hk2]; decide), if_neg (by rw [hk2]; decide)]
  intro w hw
  refine (V1_of (K := fun a' w' => ∃ L1 σ', HS F w0 w' (σ' ++ L1) ∧ wpS P ops N F w0 sa hh K L1 σ' rest a') ?_).mono fun u w' hu => ?_
  · have h := h1 w hw
    have he : TotP P ops N F w0 sa hh K rest a = fun ex a' w' => ex = .normal ∧ a'.defers = a.defers ∧ ∃ L1 σ', HS F w0 w' (σ' ++ L1) ∧ wpS P ops N F w0 sa hh K L1 σ' rest a' := by
      funext ex a' w''
      exact propext ⟨fun h => ⟨h.1, h.2, h.3⟩, fun ⟨h1, h2, h3⟩ => ⟨h1, h2, h3⟩⟩
    rwa [he] at h
  · rw [if_pos ht]; exact hu
theorem wpS_end {L0 σ : List Ent} {a : Act} (h : ∀ w, HS F w0 w (σ ++ L0) → N a w) : wpS P ops N F w0 sa hh K L0 σ [] a := h
end
end Go.Cour
/- desc: count, Total, Place, Check. -/
namespace Go.Proofs.YtlikinglgegclaaDoor
open Go.RowKit Go.Cour
set_option maxHeartbeats 400000 in
set_option maxRecDepth 100000 in
theorem dcount_calls (D : List Value) (m q N : Nat) (w : World) (hl : D.length = 99) (h1 : D[1]? = some (.int .u32 (m : Int))) (h2 : D[2]? = some (.int .u32 (q : Int))) (hm : m ≤ 1000000) (hq : q ≤ 1000000) (hN : countI m q = (N : Int)) :
    Calls Tryd.prog 39 #[.agg D.toArray] w fun e w' => e = .returned (.int .i64 (N : Int)) ∧ Below w.heap.size w w' := by
  have H1 := hid h1
  have H2 := hid h2
  have HN := hid hN
  have hS := HS.start NoF w
  clear hl h1 h2 hN
  go_enter Tryd.func39, Tryd.ntmps39
  go_wp2_with (first
    | (refine box_blk rfl 32 _ rfl _ rfl D rfl ?_; intro g1 w1 hga hba hBa hsa; replace hS : HS NoF w w1 [.blk g1 32 D] := hS.pushBlk hBa hba hga; clear hga hba hBa hsa; have c1 : w1.cell? ⟨g1, 1, none⟩ = _ := (hS.cell 0 rfl 1).trans H1.out; have c2 : w1.cell? ⟨g1, 2, none⟩ = _ := (hS.cell 0 rfl 2).trans H2.out)
    | (go_at_call 61; refine (count_calls (m : Int) (q : Int) _ (by omega) (by omega)).mono ?_; rintro e w6 ⟨rfl, rfl⟩; rw [HN.out])
    | fail)
  go_ret
  exact ⟨rfl, hS.bel⟩
set_option maxHeartbeats 400000 in
set_option maxRecDepth 100000 in
theorem dtotal_calls (D : List Value) (m q N : Nat) (w : World) (hl : D.length = 99) (h1 : D[1]? = some (.int .u32 (m : Int))) (h2 : D[2]? = some (.int .u32 (q : Int))) (hm : m ≤ 1000) (hq : q ≤ 1000000) (hN : countI m q = (N : Int)) (hN2 : N ≤ 1000) :
    Calls Tryd.prog 12 #[.agg D.toArray] w fun e w' => e = .returned (.int .i64 ((N : Int) * 48 + m)) ∧ Below w.heap.size w w' := by
  have HL := hid hl
  have H1 := hid h1
  have H2 := hid h2
  have HN := hid hN
  have hS := HS.start NoF w
  clear hl h1 h2 hN
  go_enter Tryd.func12, Tryd.ntmps12
  go_wp2_with (first
    | (refine box_blk rfl 32 _ rfl _ rfl D rfl ?_; intro g1 w1 hga hba hBa hsa; replace hS : HS NoF w w1 [.blk g1 32 D] := hS.pushBlk hBa hba hga; clear hga hba hBa hsa)
    | fail)
  try go_wp2_with fail
  refine wp_region_S (F := NoF) (w0 := w) (L0 := [.blk g1 32 D]) [1] []
    (fun iK u E => match iK with
      | 1 => u = .int .i64 (N : Int) ∧ E = []
      | _ => False)
    ([]) (by kernel_rfl) (by kernel_rfl) hS ?_
  show wpS _ _ _ _ _ _ _ _ _ _ [0, 1, 2, 3, 4, 5, 6, 7] _
  apply wpS_read (i := 0) rfl rfl ⟨_, hS⟩ rfl -- Op.load 32 t1
  · intro w' hT'
    simp only [List.getElem_toArray, List.getElem_cons_zero, List.getElem_cons_succ]
    have c1 : w'.cell? ⟨g1, 1, none⟩ = _ := (hT'.cell 0 rfl 1).trans H1.out
    go_wp2_with (first
      | (refine hs_loadW hT' 0 rfl rfl 32 _ rfl rfl 99 sizeDesc HL.out _ undDesc.choose_spec rfl _ rfl ?_)
      | fail)
    first | exact ⟨rfl, rfl, rfl⟩ | rfl
  refine wpS_soft (i := 1) rfl rfl rfl (Nat.le_of_ble_eq_true rfl) ?_ ?_ -- Op.call { value (Operand.func 43), args := #[t3], argTypes := #[32] 
  · intro w' hT
    simp only [List.getElem_toArray, List.getElem_cons_zero, List.getElem_cons_succ]
    go_wp2_with (first
      | (go_at_call 39; refine (dcount_calls D m q N _ HL.out H1.out H2.out (by omega) (by omega) HN.out).mono ?_; rintro e w6 ⟨rfl, hB6⟩)
      | fail)
    exact SoftP.mk' (.int .i64 (N : Int)) ([]) rfl (⟨rfl, rfl⟩) (hT.below hB6) (hB6) (fun _ h => by cases h)
  intro u1 E1 hK1
  obtain ⟨rfl, rfl⟩ := hK1
  simp only [Act.put, List.setIfInBounds_toArray, List.set_cons_zero, List.set_cons_succ]
  apply wpS_read (i := 2) rfl rfl ⟨_, hS⟩ rfl -- Op.binOp BinOp.mul 3 t4 (const (48:i64)) 3
  · intro w' hT'
    simp only [List.getElem_toArray, List.getElem_cons_zero, List.getElem_cons_succ]
    go_wp2_with (first
      | (refine hs_loadW hT' 0 rfl rfl 32 _ rfl rfl 99 sizeDesc HL.out _ undDesc.choose_spec rfl _ rfl ?_)
      | fail)
    first | exact ⟨rfl, rfl, rfl⟩ | rfl
  apply wpS_read (i := 3) rfl rfl ⟨_, hS⟩ rfl -- Op.fieldAddr 32 t1 1
  · intro w' hT'
    simp only [List.getElem_toArray, List.getElem_cons_zero, List.getElem_cons_succ]
    go_wp2_with fail
    first | exact ⟨rfl, rfl, rfl⟩ | rfl
  apply wpS_read (i := 4) rfl rfl ⟨_, hS⟩ rfl -- Op.load 29 t6
  · intro w' hT'
    simp only [List.getElem_toArray, List.getElem_cons_zero, List.getElem_cons_succ]
    have c1 : w'.cell? ⟨g1, 1, none⟩ = _ := (hT'.cell 0 rfl 1).trans H1.out
    go_wp2_with (first
      | (refine hs_loadW hT' 0 rfl rfl 32 _ rfl rfl 99 sizeDesc HL.out _ undDesc.choose_spec rfl _ rfl ?_)
      | fail)
    first | exact ⟨rfl, rfl, rfl⟩ | rfl
  apply wpS_read (i := 5) rfl rfl ⟨_, hS⟩ rfl -- Op.convert 29 3 t7
  · intro w' hT'
    simp only [List.getElem_toArray, List.getElem_cons_zero, List.getElem_cons_succ]
    go_wp2_with (first
      | (refine hs_loadW hT' 0 rfl rfl 32 _ rfl rfl 99 sizeDesc HL.out _ undDesc.choose_spec rfl _ rfl ?_)
      | fail)
    first | exact ⟨rfl, rfl, rfl⟩ | rfl
  apply wpS_read (i := 6) rfl rfl ⟨_, hS⟩ rfl -- Op.binOp BinOp.add 3 t5 t8 3
  · intro w' hT'
    simp only [List.getElem_toArray, List.getElem_cons_zero, List.getElem_cons_succ]
    go_wp2_with (first
      | (refine hs_loadW hT' 0 rfl rfl 32 _ rfl rfl 99 sizeDesc HL.out _ undDesc.choose_spec rfl _ rfl ?_)
      | fail)
    first | exact ⟨rfl, rfl, rfl⟩ | rfl
  apply wpS_read (i := 7) rfl rfl ⟨_, hS⟩ rfl -- Op.assign t9
  · intro w' hT'
    simp only [List.getElem_toArray, List.getElem_cons_zero, List.getElem_cons_succ]
    go_wp2_with fail
    first | exact ⟨rfl, rfl, rfl⟩ | rfl
  refine wpS_end ?_
  intro wz hT
  try dsimp only
  clear hS
  have hS : HS NoF w wz [.blk g1 32 D] := hT
  clear hT
  go_wp2_with fail
  go_ret
  exact ⟨rfl, hS.bel⟩
set_option maxHeartbeats 1000000 in
set_option maxRecDepth 100000 in
theorem dplace_calls (D : List Value) (m q N i f t p : Nat) (w : World) (hl : D.length = 99) (h1 : D[1]? = some (.int .u32 (m : Int))) (h2 : D[2]? = some (.int .u32 (q : Int))) (hm : m ≤ 1000) (hq : q ≤ 1000) (hN : countI m q = (N : Int)) (hN2 : N ≤ 1000) (hi : i < N)
    (hf : i * q = f) (hfm : f ≤ m) (ht : min q (m - f) = t) (hp : N * 32 + i * 16 + f = p) :
    Calls Tryd.prog 14 #[.agg D.toArray, .int .i64 (i : Int)] w fun e w' => e = .returned (.tuple #[.int .i64 (p : Int), .int .i64 ((t : Int) + 16)]) ∧ Below w.heap.size w w' := by
  have HL := hid hl
  have H1 := hid h1
  have H2 := hid h2
  have HN := hid hN
  have HP := hid hp
  have HT := hid ht
  have hS := HS.start NoF w
  have hfi : (i : Int) * (q : Int) = (f : Int) := by rw [← hf]; simp
  have hli : (i : Int) < N := by omega
  clear hl h1 h2 hN hf hp ht
  by_cases hc : q ≤ m - f
  · have ht2 : t = q := by have := HT.out; omega
    have hmin : (q : Int) ≤ (m : Int) - f := by omega
    clear hc
    go_enter Tryd.func14, Tryd.ntmps14
    go_wp2_with (first
        | (refine box_blk rfl 32 _ rfl _ rfl D rfl ?_; intro g1 w1 hga hba hBa hsa; replace hS : HS NoF w w1 [.blk g1 32 D] := hS.pushBlk hBa hba hga; clear hga hba hBa hsa)
        | (refine hs_loadW hS 0 rfl rfl 32 _ rfl rfl 99 sizeDesc HL.out _ undDesc.choose_spec rfl _ rfl ?_)
        | (go_at_call 39; refine (dcount_calls D m q N _ HL.out H1.out H2.out (by omega) (by omega) HN.out).mono ?_; rintro e w6 ⟨rfl, hB6⟩; replace hS := hS.below hB6; clear hB6; have c1 : w6.cell? ⟨g1, 1, none⟩ = _ := (hS.cell 0 rfl 1).trans H1.out; have c2 : w6.cell? ⟨g1, 2, none⟩ = _ := (hS.cell 0 rfl 2).trans H2.out)
        | fail)
    clear c1 c2
    try go_wp2_with fail
    refine wp_region_S (F := NoF) (w0 := w) (L0 := [.blk g1 32 D]) [] []
      (fun iK u E => match iK with
        | _ => False)
      ([]) (by kernel_rfl) (by kernel_rfl) hS ?_
    show wpS _ _ _ _ _ _ _ _ _ _ [0, 1, 2, 3, 4, 5, 6, 7, 8, 9, 10, 11, 12, 13, 14, 15, 16, 17, 18] _
    apply wpS_read (i := 0) rfl rfl ⟨_, hS⟩ rfl -- Op.move t6
    · intro w' hT'
      simp only [List.getElem_toArray, List.getElem_cons_zero, List.getElem_cons_succ]
      go_wp2_with fail
      first | exact ⟨rfl, rfl, rfl⟩ | rfl
    apply wpS_read (i := 1) rfl rfl ⟨_, hS⟩ rfl -- Op.binOp BinOp.mul 3 t22 (const (32:i64)) 3
    · intro w' hT'
      simp only [List.getElem_toArray, List.getElem_cons_zero, List.getElem_cons_succ]
      go_wp2_with fail
      first | exact ⟨rfl, rfl, rfl⟩ | rfl
    apply wpS_read (i := 2) rfl rfl ⟨_, hS⟩ rfl -- Op.move t1
    · intro w' hT'
      simp only [List.getElem_toArray, List.getElem_cons_zero, List.getElem_cons_succ]
      go_wp2_with fail
      first | exact ⟨rfl, rfl, rfl⟩ | rfl
    apply wpS_read (i := 3) rfl rfl ⟨_, hS⟩ rfl -- Op.binOp BinOp.mul 3 t24 (const (16:i64)) 3
    · intro w' hT'
      simp only [List.getElem_toArray, List.getElem_cons_zero, List.getElem_cons_succ]
      go_wp2_with fail
      first | exact ⟨rfl, rfl, rfl⟩ | rfl
    apply wpS_read (i := 4) rfl rfl ⟨_, hS⟩ rfl -- Op.binOp BinOp.add 3 t23 t25 3
    · intro w' hT'
      simp only [List.getElem_toArray, List.getElem_cons_zero, List.getElem_cons_succ]
      go_wp2_with fail
      first | exact ⟨rfl, rfl, rfl⟩ | rfl
    apply wpS_read (i := 5) rfl rfl ⟨_, hS⟩ rfl -- Op.move t7
    · intro w' hT'
      simp only [List.getElem_toArray, List.getElem_cons_zero, List.getElem_cons_succ]
      go_wp2_with fail
      first | exact ⟨rfl, rfl, rfl⟩ | rfl
    apply wpS_read (i := 6) rfl rfl ⟨_, hS⟩ rfl -- Op.binOp BinOp.add 3 t26 t27 3
    · intro w' hT'
      simp only [List.getElem_toArray, List.getElem_cons_zero, List.getElem_cons_succ]
      go_wp2_with fail
      first | exact ⟨rfl, rfl, rfl⟩ | rfl
    apply wpS_read (i := 7) rfl rfl ⟨_, hS⟩ rfl -- Op.fieldAddr 32 t2 2
    · intro w' hT'
      simp only [List.getElem_toArray, List.getElem_cons_zero, List.getElem_cons_succ]
      go_wp2_with fail
      first | exact ⟨rfl, rfl, rfl⟩ | rfl
    apply wpS_read (i := 8) rfl rfl ⟨_, hS⟩ rfl -- Op.load 29 t29
    · intro w' hT'
      simp only [List.getElem_toArray, List.getElem_cons_zero, List.getElem_cons_succ]
      have c1 : w'.cell? ⟨g1, 1, none⟩ = _ := (hT'.cell 0 rfl 1).trans H1.out
      have c2 : w'.cell? ⟨g1, 2, none⟩ = _ := (hT'.cell 0 rfl 2).trans H2.out
      go_wp2_with fail
      first | exact ⟨rfl, rfl, rfl⟩ | rfl
    apply wpS_read (i := 9) rfl rfl ⟨_, hS⟩ rfl -- Op.convert 29 3 t30
    · intro w' hT'
      simp only [List.getElem_toArray, List.getElem_cons_zero, List.getElem_cons_succ]
      go_wp2_with fail
      first | exact ⟨rfl, rfl, rfl⟩ | rfl
    apply wpS_read (i := 10) rfl rfl ⟨_, hS⟩ rfl -- Op.fieldAddr 32 t2 1
    · intro w' hT'
      simp only [List.getElem_toArray, List.getElem_cons_zero, List.getElem_cons_succ]
      go_wp2_with fail
      first | exact ⟨rfl, rfl, rfl⟩ | rfl
    apply wpS_read (i := 11) rfl rfl ⟨_, hS⟩ rfl -- Op.load 29 t32
    · intro w' hT'
      simp only [List.getElem_toArray, List.getElem_cons_zero, List.getElem_cons_succ]
      have c1 : w'.cell? ⟨g1, 1, none⟩ = _ := (hT'.cell 0 rfl 1).trans H1.out
      have c2 : w'.cell? ⟨g1, 2, none⟩ = _ := (hT'.cell 0 rfl 2).trans H2.out
      go_wp2_with fail
      first | exact ⟨rfl, rfl, rfl⟩ | rfl
    apply wpS_read (i := 12) rfl rfl ⟨_, hS⟩ rfl -- Op.convert 29 3 t33
    · intro w' hT'
      simp only [List.getElem_toArray, List.getElem_cons_zero, List.getElem_cons_succ]
      go_wp2_with fail
      first | exact ⟨rfl, rfl, rfl⟩ | rfl
    apply wpS_read (i := 13) rfl rfl ⟨_, hS⟩ rfl -- Op.move t7
    · intro w' hT'
      simp only [List.getElem_toArray, List.getElem_cons_zero, List.getElem_cons_succ]
      go_wp2_with fail
      first | exact ⟨rfl, rfl, rfl⟩ | rfl
    apply wpS_read (i := 14) rfl rfl ⟨_, hS⟩ rfl -- Op.binOp BinOp.sub 3 t34 t35 3
    · intro w' hT'
      simp only [List.getElem_toArray, List.getElem_cons_zero, List.getElem_cons_succ]
      go_wp2_with fail
      first | exact ⟨rfl, rfl, rfl⟩ | rfl
    apply wpS_read (i := 15) rfl rfl ⟨_, hS⟩ rfl -- Op.call { builtin min, args := #[t31, t36], argTypes := #[3, 3] }
    · intro w' hT'
      simp only [List.getElem_toArray, List.getElem_cons_zero, List.getElem_cons_succ]
      go_wp2_with fail
      first | exact ⟨rfl, rfl, rfl⟩ | rfl
    apply wpS_read (i := 16) rfl rfl ⟨_, hS⟩ rfl -- Op.binOp BinOp.add 3 t37 (const (16:i64)) 3
    · intro w' hT'
      simp only [List.getElem_toArray, List.getElem_cons_zero, List.getElem_cons_succ]
      go_wp2_with fail
      first | exact ⟨rfl, rfl, rfl⟩ | rfl
    apply wpS_read (i := 17) rfl rfl ⟨_, hS⟩ rfl -- Op.assign t28
    · intro w' hT'
      simp only [List.getElem_toArray, List.getElem_cons_zero, List.getElem_cons_succ]
      go_wp2_with fail
      first | exact ⟨rfl, rfl, rfl⟩ | rfl
    apply wpS_read (i := 18) rfl rfl ⟨_, hS⟩ rfl -- Op.assign t38
    · intro w' hT'
      simp only [List.getElem_toArray, List.getElem_cons_zero, List.getElem_cons_succ]
      go_wp2_with fail
      first | exact ⟨rfl, rfl, rfl⟩ | rfl
    refine wpS_end ?_
    intro wz hT
    try dsimp only
    clear hS
    have hS : HS NoF w wz [.blk g1 32 D] := hT
    clear hT
    go_wp2_with fail
    refine bodyPost_ret (Go.Cour.results_tmp2 rfl _ _ rfl rfl) rfl ⟨by show Ending.returned (.tuple #[.int .i64 ((N : Int) * 32 + (i : Int) * 16 + (f : Int)), .int .i64 ((q : Int) + 16)]) = _; rw [ht2, show (p : Int) = (N : Int) * 32 + (i : Int) * 16 + f by have := HP.out; omega], hS.bel⟩
  · have ht2 : (t : Int) = (m : Int) - f := by have := HT.out; omega
    have hmin : ¬ (q : Int) ≤ (m : Int) - f := by omega
    clear hc
    go_enter Tryd.func14, Tryd.ntmps14
    go_wp2_with (first
        | (refine box_blk rfl 32 _ rfl _ rfl D rfl ?_; intro g1 w1 hga hba hBa hsa; replace hS : HS NoF w w1 [.blk g1 32 D] := hS.pushBlk hBa hba hga; clear hga hba hBa hsa)
        | (refine hs_loadW hS 0 rfl rfl 32 _ rfl rfl 99 sizeDesc HL.out _ undDesc.choose_spec rfl _ rfl ?_)
        | (go_at_call 39; refine (dcount_calls D m q N _ HL.out H1.out H2.out (by omega) (by omega) HN.out).mono ?_; rintro e w6 ⟨rfl, hB6⟩; replace hS := hS.below hB6; clear hB6; have c1 : w6.cell? ⟨g1, 1, none⟩ = _ := (hS.cell 0 rfl 1).trans H1.out; have c2 : w6.cell? ⟨g1, 2, none⟩ = _ := (hS.cell 0 rfl 2).trans H2.out)
        | fail)
    clear c1 c2
    try go_wp2_with fail
    refine wp_region_S (F := NoF) (w0 := w) (L0 := [.blk g1 32 D]) [] []
      (fun iK u E => match iK with
        | _ => False)
      ([]) (by kernel_rfl) (by kernel_rfl) hS ?_
    show wpS _ _ _ _ _ _ _ _ _ _ [0, 1, 2, 3, 4, 5, 6, 7, 8, 9, 10, 11, 12, 13, 14, 15, 16, 17, 18] _
    apply wpS_read (i := 0) rfl rfl ⟨_, hS⟩ rfl -- Op.move t6
    · intro w' hT'
      simp only [List.getElem_toArray, List.getElem_cons_zero, List.getElem_cons_succ]
      go_wp2_with fail
      first | exact ⟨rfl, rfl, rfl⟩ | rfl
    apply wpS_read (i := 1) rfl rfl ⟨_, hS⟩ rfl -- Op.binOp BinOp.mul 3 t22 (const (32:i64)) 3
    · intro w' hT'
      simp only [List.getElem_toArray, List.getElem_cons_zero, List.getElem_cons_succ]
      go_wp2_with fail
      first | exact ⟨rfl, rfl, rfl⟩ | rfl
    apply wpS_read (i := 2) rfl rfl ⟨_, hS⟩ rfl -- Op.move t1
    · intro w' hT'
      simp only [List.getElem_toArray, List.getElem_cons_zero, List.getElem_cons_succ]
      go_wp2_with fail
      first | exact ⟨rfl, rfl, rfl⟩ | rfl
    apply wpS_read (i := 3) rfl rfl ⟨_, hS⟩ rfl -- Op.binOp BinOp.mul 3 t24 (const (16:i64)) 3
    · intro w' hT'
      simp only [List.getElem_toArray, List.getElem_cons_zero, List.getElem_cons_succ]
      go_wp2_with fail
      first | exact ⟨rfl, rfl, rfl⟩ | rfl
    apply wpS_read (i := 4) rfl rfl ⟨_, hS⟩ rfl -- Op.binOp BinOp.add 3 t23 t25 3
    · intro w' hT'
      simp only [List.getElem_toArray, List.getElem_cons_zero, List.getElem_cons_succ]
      go_wp2_with fail
      first | exact ⟨rfl, rfl, rfl⟩ | rfl
    apply wpS_read (i := 5) rfl rfl ⟨_, hS⟩ rfl -- Op.move t7
    · intro w' hT'
      simp only [List.getElem_toArray, List.getElem_cons_zero, List.getElem_cons_succ]
      go_wp2_with fail
      first | exact ⟨rfl, rfl, rfl⟩ | rfl
    apply wpS_read (i := 6) rfl rfl ⟨_, hS⟩ rfl -- Op.binOp BinOp.add 3 t26 t27 3
    · intro w' hT'
      simp only [List.getElem_toArray, List.getElem_cons_zero, List.getElem_cons_succ]
      go_wp2_with fail
      first | exact ⟨rfl, rfl, rfl⟩ | rfl
    apply wpS_read (i := 7) rfl rfl ⟨_, hS⟩ rfl -- Op.fieldAddr 32 t2 2
    · intro w' hT'
      simp only [List.getElem_toArray, List.getElem_cons_zero, List.getElem_cons_succ]
      go_wp2_with fail
      first | exact ⟨rfl, rfl, rfl⟩ | rfl
    apply wpS_read (i := 8) rfl rfl ⟨_, hS⟩ rfl -- Op.load 29 t29
    · intro w' hT'
      simp only [List.getElem_toArray, List.getElem_cons_zero, List.getElem_cons_succ]
      have c1 : w'.cell? ⟨g1, 1, none⟩ = _ := (hT'.cell 0 rfl 1).trans H1.out
      have c2 : w'.cell? ⟨g1, 2, none⟩ = _ := (hT'.cell 0 rfl 2).trans H2.out
      go_wp2_with fail
      first | exact ⟨rfl, rfl, rfl⟩ | rfl
    apply wpS_read (i := 9) rfl rfl ⟨_, hS⟩ rfl -- Op.convert 29 3 t30
    · intro w' hT'
      simp only [List.getElem_toArray, List.getElem_cons_zero, List.getElem_cons_succ]
      go_wp2_with fail
      first | exact ⟨rfl, rfl, rfl⟩ | rfl
    apply wpS_read (i := 10) rfl rfl ⟨_, hS⟩ rfl -- Op.fieldAddr 32 t2 1
    · intro w' hT'
      simp only [List.getElem_toArray, List.getElem_cons_zero, List.getElem_cons_succ]
      go_wp2_with fail
      first | exact ⟨rfl, rfl, rfl⟩ | rfl
    apply wpS_read (i := 11) rfl rfl ⟨_, hS⟩ rfl -- Op.load 29 t32
    · intro w' hT'
      simp only [List.getElem_toArray, List.getElem_cons_zero, List.getElem_cons_succ]
      have c1 : w'.cell? ⟨g1, 1, none⟩ = _ := (hT'.cell 0 rfl 1).trans H1.out
      have c2 : w'.cell? ⟨g1, 2, none⟩ = _ := (hT'.cell 0 rfl 2).trans H2.out
      go_wp2_with fail
      first | exact ⟨rfl, rfl, rfl⟩ | rfl
    apply wpS_read (i := 12) rfl rfl ⟨_, hS⟩ rfl -- Op.convert 29 3 t33
    · intro w' hT'
      simp only [List.getElem_toArray, List.getElem_cons_zero, List.getElem_cons_succ]
      go_wp2_with fail
      first | exact ⟨rfl, rfl, rfl⟩ | rfl
    apply wpS_read (i := 13) rfl rfl ⟨_, hS⟩ rfl -- Op.move t7
    · intro w' hT'
      simp only [List.getElem_toArray, List.getElem_cons_zero, List.getElem_cons_succ]
      go_wp2_with fail
      first | exact ⟨rfl, rfl, rfl⟩ | rfl
    apply wpS_read (i := 14) rfl rfl ⟨_, hS⟩ rfl -- Op.binOp BinOp.sub 3 t34 t35 3
    · intro w' hT'
      simp only [List.getElem_toArray, List.getElem_cons_zero, List.getElem_cons_succ]
      go_wp2_with fail
      first | exact ⟨rfl, rfl, rfl⟩ | rfl
    apply wpS_read (i := 15) rfl rfl ⟨_, hS⟩ rfl -- Op.call { builtin min, args := #[t31, t36], argTypes := #[3, 3] }
    · intro w' hT'
      simp only [List.getElem_toArray, List.getElem_cons_zero, List.getElem_cons_succ]
      go_wp2_with fail
      first | exact ⟨rfl, rfl, rfl⟩ | rfl
    apply wpS_read (i := 16) rfl rfl ⟨_, hS⟩ rfl -- Op.binOp BinOp.add 3 t37 (const (16:i64)) 3
    · intro w' hT'
      simp only [List.getElem_toArray, List.getElem_cons_zero, List.getElem_cons_succ]
      go_wp2_with fail
      first | exact ⟨rfl, rfl, rfl⟩ | rfl
    apply wpS_read (i := 17) rfl rfl ⟨_, hS⟩ rfl -- Op.assign t28
    · intro w' hT'
      simp only [List.getElem_toArray, List.getElem_cons_zero, List.getElem_cons_succ]
      go_wp2_with fail
      first | exact ⟨rfl, rfl, rfl⟩ | rfl
    apply wpS_read (i := 18) rfl rfl ⟨_, hS⟩ rfl -- Op.assign t38
    · intro w' hT'
      simp only [List.getElem_toArray, List.getElem_cons_zero, List.getElem_cons_succ]
      go_wp2_with fail
      first | exact ⟨rfl, rfl, rfl⟩ | rfl
    refine wpS_end ?_
    intro wz hT
    try dsimp only
    clear hS
    have hS : HS NoF w wz [.blk g1 32 D] := hT
    clear hT
    go_wp2_with fail
    refine bodyPost_ret (Go.Cour.results_tmp2 rfl _ _ rfl rfl) rfl ⟨by show Ending.returned (.tuple #[.int .i64 ((N : Int) * 32 + (i : Int) * 16 + (f : Int)), .int .i64 ((m : Int) - f + 16)]) = _; rw [ht2, show (p : Int) = (N : Int) * 32 + (i : Int) * 16 + f by have := HP.out; omega], hS.bel⟩
set_option maxHeartbeats 1000000 in
set_option maxRecDepth 100000 in
theorem dplace_none (D : List Value) (m q N : Nat) (w : World) (hl : D.length = 99) (h1 : D[1]? = some (.int .u32 (m : Int))) (h2 : D[2]? = some (.int .u32 (q : Int))) (hm : m ≤ 1000) (hq : q ≤ 1000) (hN : countI m q = (N : Int)) (hN2 : N ≤ 1000) :
    Calls Tryd.prog 14 #[.agg D.toArray, .int .i64 (N : Int)] w fun e w' => e = .returned (.tuple #[.int .i64 0, .int .i64 0]) ∧ Below w.heap.size w w' := by
  have HL := hid hl
  have H1 := hid h1
  have H2 := hid h2
  have HN := hid hN
  have hS := HS.start NoF w
  clear hl h1 h2 hN
  go_enter Tryd.func14, Tryd.ntmps14
  go_wp2_with (first
    | (refine box_blk rfl 32 _ rfl _ rfl D rfl ?_; intro g1 w1 hga hba hBa hsa; replace hS : HS NoF w w1 [.blk g1 32 D] := hS.pushBlk hBa hba hga; clear hga hba hBa hsa)
    | (refine hs_loadW hS 0 rfl rfl 32 _ rfl rfl 99 sizeDesc HL.out _ undDesc.choose_spec rfl _ rfl ?_)
    | (go_at_call 39; refine (dcount_calls D m q N _ HL.out H1.out H2.out (by omega) (by omega) HN.out).mono ?_; rintro e w6 ⟨rfl, hB6⟩; replace hS := hS.below hB6; clear hB6)
    | fail)
  refine bodyPost_ret (Go.Cour.results_tmp2 rfl _ _ rfl rfl) rfl ⟨rfl, hS.bel⟩
set_option maxHeartbeats 400000 in
set_option maxRecDepth 100000 in
theorem dcheck_ok (D : List Value) (m q : Nat) (w : World) (h1 : D[1]? = some (.int .u32 (m : Int))) (h2 : D[2]? = some (.int .u32 (q : Int))) (hm : m ≤ 600) (hq : 1 ≤ q ∧ q ≤ 64) :
    Calls Tryd.prog 11 #[.agg D.toArray] w fun e w' => e = .returned .nilIface ∧ Below w.heap.size w w' := by
  have H1 := hid h1
  have H2 := hid h2
  have hS := HS.start NoF w
  have f1 : ¬ (600 : Int) < m := by omega
  have f2 : ¬ (q : Int) < 1 := by omega
  have f3 : ¬ (64 : Int) < q := by omega
  clear h1 h2
  go_enter Tryd.func11, Tryd.ntmps11
  go_wp2_with (first
    | (refine box_blk rfl 32 _ rfl _ rfl D rfl ?_; intro g1 w1 hga hba hBa hsa; replace hS : HS NoF w w1 [.blk g1 32 D] := hS.pushBlk hBa hba hga; clear hga hba hBa hsa; have c1 : w1.cell? ⟨g1, 1, none⟩ = _ := (hS.cell 0 rfl 1).trans H1.out; have c2 : w1.cell? ⟨g1, 2, none⟩ = _ := (hS.cell 0 rfl 2).trans H2.out)
    | fail)
  go_ret
  exact ⟨rfl, hS.bel⟩
set_option maxHeartbeats 1000000 in
set_option maxRecDepth 100000 in
theorem dcheck_bad (D : List Value) (m q : Nat) {w : World} {P : Nat → Addr} (hE : Errs w P) (h1 : D[1]? = some (.int .u32 (m : Int))) (h2 : D[2]? = some (.int .u32 (q : Int))) (hb : 600 < m ∨ q < 1 ∨ 64 < q) :
    Calls Tryd.prog 11 #[.agg D.toArray] w fun e w' => e = .returned (errV (P 1)) ∧ Below w.heap.size w w' := by
  have H1 := hid h1
  have H2 := hid h2
  have HG : Hd (w.cell? ⟨0, 0, none⟩ = some (errV (P 1))) := hid (hE.cell 1 (by omega))
  have hS := HS.start NoF w
  clear h1 h2
  generalize errV (P 1) = V at *
  by_cases a : 600 < m
  · have f1 : (600 : Int) < m := by omega
    clear hb a
    go_enter Tryd.func11, Tryd.ntmps11
    go_wp2_with (first
      | (refine box_blk rfl 32 _ rfl _ rfl D rfl ?_; intro g1 w1 hga hba hBa hsa; replace hS : HS NoF w w1 [.blk g1 32 D] := hS.pushBlk hBa hba hga; clear hga hba hBa hsa; have c1 : w1.cell? ⟨g1, 1, none⟩ = _ := (hS.cell 0 rfl 1).trans H1.out; have c2 : w1.cell? ⟨g1, 2, none⟩ = _ := (hS.cell 0 rfl 2).trans H2.out; have cg := hS.oldCell HG.out (fun h => h))
      | fail)
    go_ret
    exact ⟨rfl, hS.bel⟩
  · have f1 : ¬ (600 : Int) < m := by omega
    by_cases b : q < 1
    · have f2 : (q : Int) < 1 := by omega
      clear hb a b
      go_enter Tryd.func11, Tryd.ntmps11
      go_wp2_with (first
        | (refine box_blk rfl 32 _ rfl _ rfl D rfl ?_; intro g1 w1 hga hba hBa hsa; replace hS : HS NoF w w1 [.blk g1 32 D] := hS.pushBlk hBa hba hga; clear hga hba hBa hsa; have c1 : w1.cell? ⟨g1, 1, none⟩ = _ := (hS.cell 0 rfl 1).trans H1.out; have c2 : w1.cell? ⟨g1, 2, none⟩ = _ := (hS.cell 0 rfl 2).trans H2.out; have cg := hS.oldCell HG.out (fun h => h))
        | fail)
      go_ret
      exact ⟨rfl, hS.bel⟩
    · have f2 : ¬ (q : Int) < 1 := by omega
      have f3 : (64 : Int) < q := by omega
      clear hb a b
      go_enter Tryd.func11, Tryd.ntmps11
      go_wp2_with (first
        | (refine box_blk rfl 32 _ rfl _ rfl D rfl ?_; intro g1 w1 hga hba hBa hsa; replace hS : HS NoF w w1 [.blk g1 32 D] := hS.pushBlk hBa hba hga; clear hga hba hBa hsa; have c1 : w1.cell? ⟨g1, 1, none⟩ = _ := (hS.cell 0 rfl 1).trans H1.out; have c2 : w1.cell? ⟨g1, 2, none⟩ = _ := (hS.cell 0 rfl 2).trans H2.out; have cg := hS.oldCell HG.out (fun h => h))
        | fail)
      go_ret
      exact ⟨rfl, hS.bel⟩
end Go.Proofs.YtlikinglgegclaaDoor
/- A word, turned to the right. -/
namespace Go.Proofs.YtlikinglgegclaaDoor
open Go.RowKit Go.Cour
/-- x turned to the right by k. -/
def rotr (k : Nat) (x : Int) : Int := bits .or .u32 (x * 2 ^ (32 - k) % 4294967296) (x / 2 ^ k)
theorem rl2_calls (x : Int) (w : World) (h : 0 ≤ x) (h' : x < 4294967296) :
    Calls Tryd.prog 110 #[.int .u32 x, .int .i64 (-2)] w fun e w' => e = .returned (.int .u32 (rotr 2 x)) ∧ w' = w := by
  have b1 : bits .and .u64 (IntKind.u64.wrap (-2)) 31 = 30 := by decide
  go_enter Tryd.func110, Tryd.ntmps110
  go_wp2
  go_ret
  exact ⟨rfl, rfl⟩
theorem right2_calls (x : Int) (w : World) (h : 0 ≤ x) (h' : x < 4294967296) :
    Calls Tryd.prog 101 #[.int .u32 x, .int .i64 2] w fun e w' => e = .returned (.int .u32 (rotr 2 x)) ∧ w' = w := by
  go_enter Tryd.func101, Tryd.ntmps101
  go_wp2_with (first
    | (go_at_call 110; refine (rl2_calls x _ h h').mono ?_; rintro e w1 ⟨rfl, rfl⟩)
    | fail)
  go_ret
  exact ⟨rfl, rfl⟩
theorem rot2_calls (x : Int) (w : World) (h : 0 ≤ x) (h' : x < 4294967296) :
    Calls Tryd.prog 69 #[.int .u32 x, .int .u64 2] w fun e w' => e = .returned (.int .u32 (bits .or .u32 (x / 2 ^ 2) (x * 2 ^ (32 - 2) % 4294967296))) ∧ w' = w := by
  go_enter Tryd.func69, Tryd.ntmps69
  go_wp2
  go_ret
  exact ⟨rfl, rfl⟩
theorem rl6_calls (x : Int) (w : World) (h : 0 ≤ x) (h' : x < 4294967296) :
    Calls Tryd.prog 110 #[.int .u32 x, .int .i64 (-6)] w fun e w' => e = .returned (.int .u32 (rotr 6 x)) ∧ w' = w := by
  have b1 : bits .and .u64 (IntKind.u64.wrap (-6)) 31 = 26 := by decide
  go_enter Tryd.func110, Tryd.ntmps110
  go_wp2
  go_ret
  exact ⟨rfl, rfl⟩
theorem right6_calls (x : Int) (w : World) (h : 0 ≤ x) (h' : x < 4294967296) :
    Calls Tryd.prog 101 #[.int .u32 x, .int .i64 6] w fun e w' => e = .returned (.int .u32 (rotr 6 x)) ∧ w' = w := by
  go_enter Tryd.func101, Tryd.ntmps101
  go_wp2_with (first
    | (go_at_call 110; refine (rl6_calls x _ h h').mono ?_; rintro e w1 ⟨rfl, rfl⟩)
    | fail)
  go_ret
  exact ⟨rfl, rfl⟩
theorem rot6_calls (x : Int) (w : World) (h : 0 ≤ x) (h' : x < 4294967296) :
    Calls Tryd.prog 69 #[.int .u32 x, .int .u64 6] w fun e w' => e = .returned (.int .u32 (bits .or .u32 (x / 2 ^ 6) (x * 2 ^ (32 - 6) % 4294967296))) ∧ w' = w := by
  go_enter Tryd.func69, Tryd.ntmps69
  go_wp2
  go_ret
  exact ⟨rfl, rfl⟩
theorem rl7_calls (x : Int) (w : World) (h : 0 ≤ x) (h' : x < 4294967296) :
    Calls Tryd.prog 110 #[.int .u32 x, .int .i64 (-7)] w fun e w' => e = .returned (.int .u32 (rotr 7 x)) ∧ w' = w := by
  have b1 : bits .and .u64 (IntKind.u64.wrap (-7)) 31 = 25 := by decide
  go_enter Tryd.func110, Tryd.ntmps110
  go_wp2
  go_ret
  exact ⟨rfl, rfl⟩
theorem right7_calls (x : Int) (w : World) (h : 0 ≤ x) (h' : x < 4294967296) :
    Calls Tryd.prog 101 #[.int .u32 x, .int .i64 7] w fun e w' => e = .returned (.int .u32 (rotr 7 x)) ∧ w' = w := by
  go_enter Tryd.func101, Tryd.ntmps101
  go_wp2_with (first
    | (go_at_call 110; refine (rl7_calls x _ h h').mono ?_; rintro e w1 ⟨rfl, rfl⟩)
    | fail)
  go_ret
  exact ⟨rfl, rfl⟩
theorem rot7_calls (x : Int) (w : World) (h : 0 ≤ x) (h' : x < 4294967296) :
    Calls Tryd.prog 69 #[.int .u32 x, .int .u64 7] w fun e w' => e = .returned (.int .u32 (bits .or .u32 (x / 2 ^ 7) (x * 2 ^ (32 - 7) % 4294967296))) ∧ w' = w := by
  go_enter Tryd.func69, Tryd.ntmps69
  go_wp2
  go_ret
  exact ⟨rfl, rfl⟩
theorem rl11_calls (x : Int) (w : World) (h : 0 ≤ x) (h' : x < 4294967296) :
    Calls Tryd.prog 110 #[.int .u32 x, .int .i64 (-11)] w fun e w' => e = .returned (.int .u32 (rotr 11 x)) ∧ w' = w := by
  have b1 : bits .and .u64 (IntKind.u64.wrap (-11)) 31 = 21 := by decide
  go_enter Tryd.func110, Tryd.ntmps110
  go_wp2
  go_ret
  exact ⟨rfl, rfl⟩
theorem right11_calls (x : Int) (w : World) (h : 0 ≤ x) (h' : x < 4294967296) :
    Calls Tryd.prog 101 #[.int .u32 x, .int .i64 11] w fun e w' => e = .returned (.int .u32 (rotr 11 x)) ∧ w' = w := by
  go_enter Tryd.func101, Tryd.ntmps101
  go_wp2_with (first
    | (go_at_call 110; refine (rl11_calls x _ h h').mono ?_; rintro e w1 ⟨rfl, rfl⟩)
    | fail)
  go_ret
  exact ⟨rfl, rfl⟩
theorem rot11_calls (x : Int) (w : World) (h : 0 ≤ x) (h' : x < 4294967296) :
    Calls Tryd.prog 69 #[.int .u32 x, .int .u64 11] w fun e w' => e = .returned (.int .u32 (bits .or .u32 (x / 2 ^ 11) (x * 2 ^ (32 - 11) % 4294967296))) ∧ w' = w := by
  go_enter Tryd.func69, Tryd.ntmps69
  go_wp2
  go_ret
  exact ⟨rfl, rfl⟩
theorem rl13_calls (x : Int) (w : World) (h : 0 ≤ x) (h' : x < 4294967296) :
    Calls Tryd.prog 110 #[.int .u32 x, .int .i64 (-13)] w fun e w' => e = .returned (.int .u32 (rotr 13 x)) ∧ w' = w := by
  have b1 : bits .and .u64 (IntKind.u64.wrap (-13)) 31 = 19 := by decide
  go_enter Tryd.func110, Tryd.ntmps110
  go_wp2
  go_ret
  exact ⟨rfl, rfl⟩
theorem right13_calls (x : Int) (w : World) (h : 0 ≤ x) (h' : x < 4294967296) :
    Calls Tryd.prog 101 #[.int .u32 x, .int .i64 13] w fun e w' => e = .returned (.int .u32 (rotr 13 x)) ∧ w' = w := by
  go_enter Tryd.func101, Tryd.ntmps101
  go_wp2_with (first
    | (go_at_call 110; refine (rl13_calls x _ h h').mono ?_; rintro e w1 ⟨rfl, rfl⟩)
    | fail)
  go_ret
  exact ⟨rfl, rfl⟩
theorem rot13_calls (x : Int) (w : World) (h : 0 ≤ x) (h' : x < 4294967296) :
    Calls Tryd.prog 69 #[.int .u32 x, .int .u64 13] w fun e w' => e = .returned (.int .u32 (bits .or .u32 (x / 2 ^ 13) (x * 2 ^ (32 - 13) % 4294967296))) ∧ w' = w := by
  go_enter Tryd.func69, Tryd.ntmps69
  go_wp2
  go_ret
  exact ⟨rfl, rfl⟩
theorem rl17_calls (x : Int) (w : World) (h : 0 ≤ x) (h' : x < 4294967296) :
    Calls Tryd.prog 110 #[.int .u32 x, .int .i64 (-17)] w fun e w' => e = .returned (.int .u32 (rotr 17 x)) ∧ w' = w := by
  have b1 : bits .and .u64 (IntKind.u64.wrap (-17)) 31 = 15 := by decide
  go_enter Tryd.func110, Tryd.ntmps110
  go_wp2
  go_ret
  exact ⟨rfl, rfl⟩
theorem right17_calls (x : Int) (w : World) (h : 0 ≤ x) (h' : x < 4294967296) :
    Calls Tryd.prog 101 #[.int .u32 x, .int .i64 17] w fun e w' => e = .returned (.int .u32 (rotr 17 x)) ∧ w' = w := by
  go_enter Tryd.func101, Tryd.ntmps101
  go_wp2_with (first
    | (go_at_call 110; refine (rl17_calls x _ h h').mono ?_; rintro e w1 ⟨rfl, rfl⟩)
    | fail)
  go_ret
  exact ⟨rfl, rfl⟩
theorem rot17_calls (x : Int) (w : World) (h : 0 ≤ x) (h' : x < 4294967296) :
    Calls Tryd.prog 69 #[.int .u32 x, .int .u64 17] w fun e w' => e = .returned (.int .u32 (bits .or .u32 (x / 2 ^ 17) (x * 2 ^ (32 - 17) % 4294967296))) ∧ w' = w := by
  go_enter Tryd.func69, Tryd.ntmps69
  go_wp2
  go_ret
  exact ⟨rfl, rfl⟩
theorem rl18_calls (x : Int) (w : World) (h : 0 ≤ x) (h' : x < 4294967296) :
    Calls Tryd.prog 110 #[.int .u32 x, .int .i64 (-18)] w fun e w' => e = .returned (.int .u32 (rotr 18 x)) ∧ w' = w := by
  have b1 : bits .and .u64 (IntKind.u64.wrap (-18)) 31 = 14 := by decide
  go_enter Tryd.func110, Tryd.ntmps110
  go_wp2
  go_ret
  exact ⟨rfl, rfl⟩
theorem right18_calls (x : Int) (w : World) (h : 0 ≤ x) (h' : x < 4294967296) :
    Calls Tryd.prog 101 #[.int .u32 x, .int .i64 18] w fun e w' => e = .returned (.int .u32 (rotr 18 x)) ∧ w' = w := by
  go_enter Tryd.func101, Tryd.ntmps101
  go_wp2_with (first
    | (go_at_call 110; refine (rl18_calls x _ h h').mono ?_; rintro e w1 ⟨rfl, rfl⟩)
    | fail)
  go_ret
  exact ⟨rfl, rfl⟩
theorem rot18_calls (x : Int) (w : World) (h : 0 ≤ x) (h' : x < 4294967296) :
    Calls Tryd.prog 69 #[.int .u32 x, .int .u64 18] w fun e w' => e = .returned (.int .u32 (bits .or .u32 (x / 2 ^ 18) (x * 2 ^ (32 - 18) % 4294967296))) ∧ w' = w := by
  go_enter Tryd.func69, Tryd.ntmps69
  go_wp2
  go_ret
  exact ⟨rfl, rfl⟩
theorem rl19_calls (x : Int) (w : World) (h : 0 ≤ x) (h' : x < 4294967296) :
    Calls Tryd.prog 110 #[.int .u32 x, .int .i64 (-19)] w fun e w' => e = .returned (.int .u32 (rotr 19 x)) ∧ w' = w := by
  have b1 : bits .and .u64 (IntKind.u64.wrap (-19)) 31 = 13 := by decide
  go_enter Tryd.func110, Tryd.ntmps110
  go_wp2
  go_ret
  exact ⟨rfl, rfl⟩
theorem right19_calls (x : Int) (w : World) (h : 0 ≤ x) (h' : x < 4294967296) :
    Calls Tryd.prog 101 #[.int .u32 x, .int .i64 19] w fun e w' => e = .returned (.int .u32 (rotr 19 x)) ∧ w' = w := by
  go_enter Tryd.func101, Tryd.ntmps101
  go_wp2_with (first
    | (go_at_call 110; refine (rl19_calls x _ h h').mono ?_; rintro e w1 ⟨rfl, rfl⟩)
    | fail)
  go_ret
  exact ⟨rfl, rfl⟩
theorem rot19_calls (x : Int) (w : World) (h : 0 ≤ x) (h' : x < 4294967296) :
    Calls Tryd.prog 69 #[.int .u32 x, .int .u64 19] w fun e w' => e = .returned (.int .u32 (bits .or .u32 (x / 2 ^ 19) (x * 2 ^ (32 - 19) % 4294967296))) ∧ w' = w := by
  go_enter Tryd.func69, Tryd.ntmps69
  go_wp2
  go_ret
  exact ⟨rfl, rfl⟩
theorem rl22_calls (x : Int) (w : World) (h : 0 ≤ x) (h' : x < 4294967296) :
    Calls Tryd.prog 110 #[.int .u32 x, .int .i64 (-22)] w fun e w' => e = .returned (.int .u32 (rotr 22 x)) ∧ w' = w := by
  have b1 : bits .and .u64 (IntKind.u64.wrap (-22)) 31 = 10 := by decide
  go_enter Tryd.func110, Tryd.ntmps110
  go_wp2
  go_ret
  exact ⟨rfl, rfl⟩
theorem right22_calls (x : Int) (w : World) (h : 0 ≤ x) (h' : x < 4294967296) :
    Calls Tryd.prog 101 #[.int .u32 x, .int .i64 22] w fun e w' => e = .returned (.int .u32 (rotr 22 x)) ∧ w' = w := by
  go_enter Tryd.func101, Tryd.ntmps101
  go_wp2_with (first
    | (go_at_call 110; refine (rl22_calls x _ h h').mono ?_; rintro e w1 ⟨rfl, rfl⟩)
    | fail)
  go_ret
  exact ⟨rfl, rfl⟩
theorem rot22_calls (x : Int) (w : World) (h : 0 ≤ x) (h' : x < 4294967296) :
    Calls Tryd.prog 69 #[.int .u32 x, .int .u64 22] w fun e w' => e = .returned (.int .u32 (bits .or .u32 (x / 2 ^ 22) (x * 2 ^ (32 - 22) % 4294967296))) ∧ w' = w := by
  go_enter Tryd.func69, Tryd.ntmps69
  go_wp2
  go_ret
  exact ⟨rfl, rfl⟩
theorem rl25_calls (x : Int) (w : World) (h : 0 ≤ x) (h' : x < 4294967296) :
    Calls Tryd.prog 110 #[.int .u32 x, .int .i64 (-25)] w fun e w' => e = .returned (.int .u32 (rotr 25 x)) ∧ w' = w := by
  have b1 : bits .and .u64 (IntKind.u64.wrap (-25)) 31 = 7 := by decide
  go_enter Tryd.func110, Tryd.ntmps110
  go_wp2
  go_ret
  exact ⟨rfl, rfl⟩
theorem right25_calls (x : Int) (w : World) (h : 0 ≤ x) (h' : x < 4294967296) :
    Calls Tryd.prog 101 #[.int .u32 x, .int .i64 25] w fun e w' => e = .returned (.int .u32 (rotr 25 x)) ∧ w' = w := by
  go_enter Tryd.func101, Tryd.ntmps101
  go_wp2_with (first
    | (go_at_call 110; refine (rl25_calls x _ h h').mono ?_; rintro e w1 ⟨rfl, rfl⟩)
    | fail)
  go_ret
  exact ⟨rfl, rfl⟩
theorem rot25_calls (x : Int) (w : World) (h : 0 ≤ x) (h' : x < 4294967296) :
    Calls Tryd.prog 69 #[.int .u32 x, .int .u64 25] w fun e w' => e = .returned (.int .u32 (bits .or .u32 (x / 2 ^ 25) (x * 2 ^ (32 - 25) % 4294967296))) ∧ w' = w := by
  go_enter Tryd.func69, Tryd.ntmps69
  go_wp2
  go_ret
  exact ⟨rfl, rfl⟩
end Go.Proofs.YtlikinglgegclaaDoor
