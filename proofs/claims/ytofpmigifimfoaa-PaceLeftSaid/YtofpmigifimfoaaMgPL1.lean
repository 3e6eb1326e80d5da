import Derived.Deep.MidRow
import Derived.Laws.CopyOwn
import Derived.ArgAppend
import Derived.WalkLawsBesides
import Derived.KernelRfl
import Derived.Test.YtofpmigifimfoaaProg
import Derived.Test.YtofpmigifimfoaaMgPL0
set_option linter.unusedSimpArgs false
set_option linter.unusedVariables false
/- A region that draws its order, walked once in the order of its text: what reads yields the same wherever a fact T holds of the world; what acts stands in a chain, and keeps T. -/
namespace Go.Cour
/-- Operations that read and no more. -/
def readK : Op → Bool
  | .move _ | .assign _ | .pick _ _ _ | .build _ _ | .load _ _ | .nilCheck _ | .binOp _ _ _ _ _ | .unOp _ _ _ | .makeInterface _ _ | .makeFunc _ _ _ | .fieldAddr _ _ _ | .field _ _ _ | .indexAddr _ _ _ | .index _ _ _ | .extract _ _ | .slice _ _ _ _ _ => true
  | .call c => match c.callee with
    | .builtin .len | .builtin .cap | .builtin .min | .builtin .max => true
    | _ => false
  | .convert _ d _ => d != 999999
  | .typeAssert _ _ _ _ => true
  | _ => false
theorem andThen_value {α : Type} {r : Result α} {f : α → Value} {n : Next} {w' : World} (h : r.andThen (fun x w => .ok (Next.value (f x)) w) = .ok n w') : ∃ u, n = .value u := by
  cases r with
  | ok x w => simp only [Result.andThen_ok] at h; injection h with h _; exact ⟨_, h.symm⟩
  | halt x w => simp [Result.andThen] at h
theorem andThen_any {α : Type} {r : Result α} {f : α → World → Result Next} {n : Next} {w' : World} (hf : ∀ x w n w', f x w = .ok n w' → ∃ u, n = .value u) (h : r.andThen f = .ok n w') : ∃ u, n = .value u := by
  cases r with
  | ok x w => exact hf x w n w' h
  | halt x w => simp [Result.andThen] at h
theorem readK_value {P : Program} {o : Oper} {ρ : Operand → Value} {w w' : World} {n : Next} (hk : readK o.op = true) (h : (execOp ρ o).run P w = .ok n w') : ∃ u, n = .value u := by
  unfold execOp at h
  cases hop : o.op <;> simp only [hop, readK, Bool.false_eq_true] at hk h
  case move x => simp at h; exact ⟨_, h.1.symm⟩
  case assign x => simp at h; exact ⟨_, h.1.symm⟩
  case nilCheck x =>
    split at h
    · simp [runtimePanic] at h
    · simp [runtimePanic] at h
    · simp [runtimePanic] at h
    · split at h
      · simp [runtimePanic] at h
      · simp only [Sem.run_bind] at h
        refine andThen_any (fun x w n w' h => ?_) h
        refine andThen_any (fun x w n w' h => ?_) h
        split at h
        · simp [Go.unsupported] at h
        · simp at h; exact ⟨_, h.1.symm⟩
      · simp at h; exact ⟨_, h.1.symm⟩
    · simp at h; exact ⟨_, h.1.symm⟩
  case call c =>
    cases hc : c.callee with
    | value f => simp [hc] at hk
    | invoke r m => simp [hc] at hk
    | builtin b =>
      simp only [hc] at hk
      simp only [resolve, hc, invoke, Sem.run_bind, Sem.run_pure, Result.andThen_ok] at h
      cases b <;> simp at hk <;> simp only [builtin, Sem.run_bind, Sem.run_pure] at h <;> exact andThen_value h
  all_goals (simp only [Sem.run_bind, Sem.run_pure] at h; exact andThen_value h)
theorem put_put_iff (a : Act) {d e : Option Tmp} (x u v : Value) (h : ∀ t, d = some t → e ≠ some t) : (a.put d x).put e u = (a.put d x).put e v ↔ a.put e u = a.put e v := by
  cases e with
  | none => simp [Act.put]
  | some t =>
    cases d with
    | none => simp [Act.put]
    | some s =>
      have hne : s ≠ t := fun he => h s rfl (he ▸ rfl)
      constructor
      · intro h1
        by_cases ht : t < a.tmps.size
        · have h2 := congrArg (fun b : Act => b.tmps[t]?) h1
          have h3 : t < (a.put (some s) x).tmps.size := by rw [put_size]; exact ht
          simp only [put_same _ _ _ h3, Option.some.injEq] at h2
          rw [h2]
        · simp [Act.put, Array.setIfInBounds, ht]
      · intro h1
        rw [Act.put_comm a x u h, Act.put_comm a x v h, h1]
section
variable (P : Program) (ops : Array Oper) (N : Act → World → Prop)
/-- An operation that reads: what the act is behind it; the world is as it was. -/
def Rd1 (o : Oper) (a : Act) (w : World) (v : Value) : Prop :=
  if Region.wanted o (yielded ops a.tmps) then ∃ u, (execOp a.eval o).run P w = .ok (.value u) w ∧ a.put o.dst u = a.put o.dst v
  else a.put o.dst undef = a.put o.dst v
/-- An operation that acts: what holds of its value, and of the world behind it. -/
def V1 (o : Oper) (a : Act) (w : World) (K : Value → World → Prop) : Prop :=
  if Region.wanted o (yielded ops a.tmps) then
    match (execOp a.eval o).run P w with
    | .ok (.value v) w' => K v w'
    | .ok .skip w' => K undef w'
    | .ok (.enter f args) w' => Calls P f args w' fun e w'' => ∃ v, e = .returned v ∧ K v w''
    | .ok (.row row args) w' => Rows P row args w' K
    | _ => False
  else K undef w
theorem waitsT_more {ops : Array Oper} : ∀ (n k i : Nat), waitsT ops n k i = true → waitsT ops (n + 1) k i = true
  | 0, k, i, h => by
    unfold waitsT at h ⊢
    rw [h]; rfl
  | n + 1, k, i, h => by
    unfold waitsT at h ⊢
    rw [Bool.or_eq_true] at h ⊢
    refine h.imp (fun h => h) fun h => ?_
    cases ho : ops[k]? with
    | none => simp [ho] at h
    | some o =>
      simp only [ho] at h ⊢
      obtain ⟨e, he, hb⟩ := Array.any_eq_true'.1 h
      refine Array.any_eq_true'.2 ⟨e, he, ?_⟩
      simp only [Bool.and_eq_true] at hb ⊢
      exact ⟨hb.1, waitsT_more n e.on i hb.2⟩
theorem waitsT_le {ops : Array Oper} {k i : Nat} (n : Nat) : ∀ m, waitsT ops n k i = true → waitsT ops (n + m) k i = true
  | 0, h => h
  | m + 1, h => waitsT_more (n + m) k i (waitsT_le n m h)
/-- Whom operation n waits for, as a number's bits; l: those ahead, the last one first. -/
def maskOf (ops : Array Oper) (n : Nat) (l : List Nat) : Nat := match ops[n]? with
  | none => 0
  | some o => o.after.toList.foldl (fun m e => if Region.binds .any e then m ||| (2 ^ e.on) ||| (if e.on < n then l.getD (n - 1 - e.on) 0 else 0) else m) 0
def reachR (ops : Array Oper) : Nat → List Nat
  | 0 => []
  | n + 1 => maskOf ops n (reachR ops n) :: reachR ops n
theorem mask_bit {n p : Nat} {l : List Nat} : ∀ {es : List Edge} {m : Nat}, (es.foldl (fun m e => if Region.binds .any e then m ||| (2 ^ e.on) ||| (if e.on < n then l.getD (n - 1 - e.on) 0 else 0) else m) m).testBit p = true →
    m.testBit p = true ∨ ∃ e ∈ es, Region.binds .any e = true ∧ (e.on = p ∨ (e.on < n ∧ (l.getD (n - 1 - e.on) 0).testBit p = true))
  | [], m, h => .inl h
  | e :: es, m, h => by
    rw [List.foldl_cons] at h
    rcases mask_bit h with h1 | ⟨e', he', h1⟩
    · by_cases hb : Region.binds .any e = true
      · rw [if_pos hb, Nat.testBit_or, Nat.testBit_or, Bool.or_eq_true, Bool.or_eq_true] at h1
        rcases h1 with (h1 | h1) | h1
        · exact .inl h1
        · rw [Nat.testBit_two_pow] at h1
          exact .inr ⟨e, List.mem_cons_self .., hb, .inl (by simpa using h1)⟩
        · by_cases hlt : e.on < n
          · rw [if_pos hlt] at h1
            exact .inr ⟨e, List.mem_cons_self .., hb, .inr ⟨hlt, h1⟩⟩
          · rw [if_neg hlt] at h1; simp at h1
      · rw [if_neg hb] at h1; exact .inl h1
    · exact .inr ⟨e', List.mem_cons_of_mem _ he', h1⟩
theorem reach_spec (ops : Array Oper) : ∀ (n i : Nat), i < n → ∀ p, ((reachR ops n).getD (n - 1 - i) 0).testBit p = true → waitsT ops (i + 1) i p = true
  | 0, i, h, _, _ => absurd h (Nat.not_lt_zero _)
  | n + 1, i, h, p, hb => by
    by_cases hin : i = n
    · subst hin
      have h0 : i + 1 - 1 - i = 0 := by omega
      rw [h0] at hb
      have hb' : (maskOf ops i (reachR ops i)).testBit p = true := hb
      unfold maskOf at hb'
      cases ho : ops[i]? with
      | none => simp [ho] at hb'
      | some o =>
        simp only [ho] at hb'
        rcases mask_bit hb' with h1 | ⟨e, he, hbi, h1⟩
        · simp at h1
        · unfold waitsT
          rw [Bool.or_eq_true]
          refine .inr ?_
          simp only [ho]
          refine Array.any_eq_true'.2 ⟨e, by simpa using he, ?_⟩
          simp only [Bool.and_eq_true]
          refine ⟨hbi, ?_⟩
          rcases h1 with h1 | ⟨h1, h2⟩
          · rw [h1]
            cases i <;> unfold waitsT <;> simp
          · have h3 := reach_spec ops i e.on h1 p h2
            have h4 := waitsT_le (e.on + 1) (i - (e.on + 1)) h3
            rwa [show e.on + 1 + (i - (e.on + 1)) = i by omega] at h4
    · have h1 : n + 1 - 1 - i = (n - 1 - i) + 1 := by omega
      rw [h1] at hb
      exact reach_spec ops n i (by omega) p hb
/-- Operation i waits for operation p. -/
def dirW (ops : Array Oper) (i p : Nat) : Bool := decide (i < ops.size) && decide (i < 199) && ((reachR ops ops.size).getD (ops.size - 1 - i) 0).testBit p
theorem dirW_waits {ops : Array Oper} {i p : Nat} (h : dirW ops i p = true) : waitsT ops 200 i p = true := by
  unfold dirW at h
  simp only [Bool.and_eq_true, decide_eq_true_eq] at h
  have h1 := reach_spec ops ops.size i h.1.1 p h.2
  have h2 := waitsT_le (i + 1) (200 - (i + 1)) h1
  rwa [show i + 1 + (200 - (i + 1)) = 200 by omega] at h2
/-- An operation that acts, and stands in one order with all others. -/
def totB (ops : Array Oper) (i : Nat) : Bool := (List.range ops.size).all fun j => (decide (i ≤ j) || dirW ops i j) && (decide (j ≤ i) || dirW ops j i)
/-- The operations walked in the order of the text. -/
def wpT : (World → Prop) → List Nat → Act → World → Prop
  | _, [], a, w => N a w
  | T, i :: rest, a, w => match ops[i]? with
    | none => False
    | some o =>
      if readK o.op then ∃ v, (∀ w', T w' → Rd1 P ops o a w' v) ∧ wpT T rest (a.put o.dst v) w
      else V1 P ops o a w fun u w' => if totB ops i then ∃ T', T' w' ∧ wpT T' rest (a.put o.dst u) w' else T w' ∧ wpT T rest (a.put o.dst u) w'
end
section
variable {P : Program} {ops : Array Oper} {T : World → Prop} {N : Act → World → Prop}
theorem Rd1.put {o : Oper} {a : Act} {w : World} {v : Value} {d : Option Tmp} (x : Value) (h1 : ∀ t, d = some t → t ∉ o.looksAt ops) (h2 : ∀ t, d = some t → o.dst ≠ some t) (hs : ∀ cs b, o.op ≠ .select cs b) : Rd1 P ops o (a.put d x) w v ↔ Rd1 P ops o a w v := by
  unfold Rd1
  rw [wanted_put o a d x h1, execOp_put o hs a d x h1]
  simp only [put_put_iff a x _ _ h2]
theorem V1.put {o : Oper} {a : Act} {w : World} {K : Value → World → Prop} {d : Option Tmp} (x : Value) (h1 : ∀ t, d = some t → t ∉ o.looksAt ops) (hs : ∀ cs b, o.op ≠ .select cs b) : V1 P ops o (a.put d x) w K ↔ V1 P ops o a w K := by
  unfold V1
  rw [wanted_put o a d x h1, execOp_put o hs a d x h1]
theorem V1.mono {o : Oper} {a : Act} {w : World} {K K' : Value → World → Prop} (h : V1 P ops o a w K) (hk : ∀ u w', K u w' → K' u w') : V1 P ops o a w K' := by
  unfold V1 at *
  split at h <;> rename_i hw
  · rw [if_pos hw]
    revert h
    cases (execOp a.eval o).run P w with
    | halt x w' => exact fun h => h
    | ok n w' =>
      cases n <;> intro h <;> first | exact hk _ _ h | exact h | skip
      case enter f args => exact Calls.mono h fun e w'' ⟨v, he, hv⟩ => ⟨v, he, hk _ _ hv⟩
      case row row args => exact Rows.mono h fun u w'' hu => hk _ _ hu
  · rw [if_neg hw]; exact hk _ _ h
theorem V1.ex {o : Oper} {a : Act} {w : World} {K : Value → World → Prop} (h : V1 P ops o a w K) : ∃ u w', K u w' := by
  unfold V1 at h
  split at h
  · revert h
    cases (execOp a.eval o).run P w with
    | halt x w' => exact fun h => h.elim
    | ok n w' =>
      cases n <;> intro h <;> first | exact ⟨_, _, h⟩ | exact h.elim | skip
      case enter f args => obtain ⟨e, w'', fr, ⟨v, _, hv⟩, _⟩ := h []; exact ⟨v, w'', hv⟩
      case row row args => obtain ⟨v, w'', hv, _⟩ := h default []; exact ⟨v, w'', hv⟩
  · exact ⟨_, _, h⟩
theorem Rd1.det {o : Oper} {a : Act} {w : World} {u v : Value} (h : Rd1 P ops o a w u) (k : Rd1 P ops o a w v) : a.put o.dst u = a.put o.dst v := by
  unfold Rd1 at *
  split at h <;> rename_i hw
  · rw [if_pos hw] at k
    obtain ⟨x, h1, h2⟩ := h
    obtain ⟨y, h3, h4⟩ := k
    rw [h1] at h3
    injection h3 with h3
    injection h3 with h3
    subst h3
    exact h2.symm.trans h4
  · rw [if_neg hw] at k; exact h.symm.trans k
def noSel (o : Oper) : Prop := ∀ cs b, o.op ≠ .select cs b
/-- What may go ahead goes ahead. -/
theorem wpT_pull (i : Nat) (o : Oper) (post : List Nat) (hi : ops[i]? = some o) (hso : noSel o) : ∀ (pre : List Nat) (a : Act) (w : World), T w → (pre ≠ [] → totB ops i = false) → (∀ j ∈ pre, totB ops j = false ∧ ∃ p, ops[j]? = some p ∧ p.apart ops o = true ∧ (readK p.op || readK o.op) = true ∧ noSel p) → wpT P ops N T (pre ++ i :: post) a w →
    if readK o.op then ∃ v, (∀ w', T w' → Rd1 P ops o a w' v) ∧ wpT P ops N T (pre ++ post) (a.put o.dst v) w
    else V1 P ops o a w fun u w' => if totB ops i then ∃ T', T' w' ∧ wpT P ops N T' (pre ++ post) (a.put o.dst u) w' else T w' ∧ wpT P ops N T (pre ++ post) (a.put o.dst u) w'
  | [], a, w, _, _, _, h => by simpa only [List.nil_append, wpT, hi] using h
  | j :: pre, a, w, hT, hti, hp, h => by
    obtain ⟨htj, p, hj, hap, hrd, hsp⟩ := hp j (List.mem_cons_self ..)
    have hti' := hti (by simp)
    obtain ⟨s1, s2, s3⟩ := Oper.apart_spec hap
    have s4 : ∀ t, o.dst = some t → p.dst ≠ some t := fun t ht hpt => s2 t hpt ht
    have ih := fun a w hT => wpT_pull i o post hi hso pre a w hT (fun _ => hti') (fun q hq => hp q (List.mem_cons_of_mem _ hq))
    simp only [List.cons_append, wpT, hj, htj, hti', Bool.false_eq_true, if_false] at h ih ⊢
    by_cases hkp : readK p.op = true
    · rw [if_pos hkp] at h
      obtain ⟨vp, hvp, h⟩ := h
      have h2 := ih _ _ hT h
      by_cases hko : readK o.op = true
      · rw [if_pos hko] at h2 ⊢
        obtain ⟨v, hv, h3⟩ := h2
        refine ⟨v, fun w' hw' => (Rd1.put vp s1 s2 hso).1 (hv w' hw'), ?_⟩
        rw [if_pos hkp]
        refine ⟨vp, fun w' hw' => (Rd1.put v s3 s4 hsp).2 (hvp w' hw'), ?_⟩
        rw [← Act.put_comm a vp v s2]; exact h3
      · rw [if_neg hko] at h2 ⊢
        refine ((V1.put vp s1 hso).1 h2).mono fun u w' ⟨h3, h4⟩ => ⟨h3, ?_⟩
        rw [if_pos hkp]
        refine ⟨vp, fun w'' hw'' => (Rd1.put u s3 s4 hsp).2 (hvp w'' hw''), ?_⟩
        rw [← Act.put_comm a vp u s2]; exact h4
    · have hko : readK o.op = true := by
        rw [Bool.or_eq_true] at hrd
        exact hrd.resolve_left hkp
      rw [if_neg hkp] at h
      rw [if_pos hko]
      have h2 : V1 P ops p a w fun u w' => T w' ∧ ∃ v, (∀ w'', T w'' → Rd1 P ops o a w'' v) ∧ wpT P ops N T (pre ++ post) ((a.put p.dst u).put o.dst v) w' := h.mono fun u w' ⟨h3, h4⟩ => by
        have h5 := ih _ _ h3 h4
        rw [if_pos hko] at h5
        obtain ⟨v, hv, h6⟩ := h5
        exact ⟨h3, v, fun w'' hw'' => (Rd1.put u s1 s2 hso).1 (hv w'' hw''), h6⟩
      obtain ⟨u0, w0, hT0, v0, hv0, _⟩ := h2.ex
      refine ⟨v0, hv0, ?_⟩
      rw [if_neg hkp]
      refine (V1.put v0 s3 hsp).2 (h2.mono fun u w' ⟨h3, v, hv, h4⟩ => ⟨h3, ?_⟩)
      rw [Act.put_comm a u v s2, (hv w0 hT0).det (hv0 w0 hT0)] at h4
      exact h4
/-- What the law asks of the region's text. -/
def chkTOne (ops : Array Oper) (i : Nat) : Bool :=
  match ops[i]? with
  | none => true
  | some o => (o.after.all fun e => !Region.binds .any e || decide (e.on < i)) && !isSelect o.op &&
    (List.range i).all fun p => dirW ops i p || (match ops[p]? with | some q => q.apart ops o && (readK q.op || readK o.op) | none => true)
def chkT (ops : Array Oper) : Bool := (List.range ops.size).all (chkTOne ops)
structure ChkT (ops : Array Oper) : Prop where
  back : ∀ (i : Nat) (o : Oper), ops[i]? = some o → ∀ e ∈ o.after, Region.binds .any e = true → e.on < i
  sel : ∀ (i : Nat) (o : Oper), ops[i]? = some o → noSel o
  ahead : ∀ (i : Nat) (o : Oper), ops[i]? = some o → ∀ p q, p < i → ops[p]? = some q → waitsT ops 200 i p = true ∨ (q.apart ops o = true ∧ (readK q.op || readK o.op) = true)
theorem chkT_spec (h : chkT ops = true) : ChkT ops := by
  have h1 : ∀ i o, ops[i]? = some o → ((o.after.all fun e => !Region.binds .any e || decide (e.on < i)) = true ∧ isSelect o.op = false) ∧
    ((List.range i).all fun p => dirW ops i p || (match ops[p]? with | some q => q.apart ops o && (readK q.op || readK o.op) | none => true)) = true := fun i o ho => by
    have := List.all_eq_true.1 h i (List.mem_range.2 (Array.getElem?_eq_some_iff.1 ho).1)
    unfold chkTOne at this
    simp only [ho, Bool.and_eq_true, Bool.not_eq_true'] at this
    exact this
  refine ⟨fun i o ho e he hb => ?_, fun i o ho cs b hs => ?_, fun i o ho p q hp hq => ?_⟩
  · have := Array.all_eq_true'.1 (h1 i o ho).1.1 e he
    simpa [hb] using this
  · have := (h1 i o ho).1.2
    rw [hs] at this
    simp [isSelect] at this
  · have := List.all_eq_true.1 (h1 i o ho).2 p (List.mem_range.2 hp)
    simp only [hq, Bool.or_eq_true, Bool.and_eq_true] at this
    rcases this with h2 | ⟨h2, h3⟩
    · exact .inl (dirW_waits h2)
    · exact .inr ⟨h2, by simpa using h3⟩
/-- Whoever stands listed has all that it waits for listed. -/
def Closed (ops : Array Oper) (listed : Array Bool) : Prop := ∀ (j : Nat) (oj : Oper), ops[j]? = some oj → listed.getD j false = true → ∀ e ∈ oj.after, Region.binds .any e = true → listed.getD e.on false = true
theorem Closed.waits {listed : Array Bool} (hc : Closed ops listed) (hl : listed.size = ops.size) : ∀ (n k p : Nat), waitsT ops n k p = true → k < ops.size → listed.getD k false = true → listed.getD p false = true
  | 0, k, p, hw, _, hk => by
    have : k = p := by simpa [waitsT] using hw
    rw [← this]; exact hk
  | n + 1, k, p, hw, hlt, hk => by
    unfold waitsT at hw
    rw [Bool.or_eq_true] at hw
    rcases hw with hw | hw
    · have : k = p := by simpa using hw
      rw [← this]; exact hk
    · cases ho : ops[k]? with
      | none => simp [ho] at hw
      | some o =>
        simp only [ho] at hw
        obtain ⟨e, he, hb⟩ := Array.any_eq_true'.1 hw
        simp only [Bool.and_eq_true] at hb
        have h2 := hc k o ho hk e he hb.1
        have h3 : e.on < ops.size := by
          rcases Nat.lt_or_ge e.on ops.size with h | h
          · exact h
          · have : listed.getD e.on false = false := by simp [Array.getD, show ¬ e.on < listed.size by omega]
            rw [this] at h2; cases h2
        exact hc.waits hl n e.on p hb.2 h3 h2
def unl (listed : Array Bool) (j : Nat) : Bool := !(listed.getD j true)
def rem (ops : Array Oper) (listed : Array Bool) : List Nat := (List.range ops.size).filter (unl listed)
theorem filter_ne_mid {s t : List Nat} {i : Nat} (h : (s ++ i :: t).Pairwise (· < ·)) : (s ++ i :: t).filter (fun j => j != i) = s ++ t := by
  rw [List.filter_append, List.filter_cons]
  have h1 : ∀ j ∈ s, j < i := fun j hj => (List.pairwise_append.1 h).2.2 j hj i (List.mem_cons_self ..)
  have h2 : ∀ j ∈ t, i < j := (List.pairwise_cons.1 (List.pairwise_append.1 h).2.1).1
  simp only [bne_self_eq_false, Bool.false_eq_true, if_false]
  rw [List.filter_eq_self.2 (fun j hj => by simp; have := h1 j hj; omega), List.filter_eq_self.2 (fun j hj => by simp; have := h2 j hj; omega)]
theorem totB_spec {i : Nat} (h : totB ops i = true) : ∀ j, j < ops.size → (j < i → waitsT ops 200 i j = true) ∧ (i < j → waitsT ops 200 j i = true) := fun j hj => by
  have := List.all_eq_true.1 h j (List.mem_range.2 hj)
  simp only [Bool.and_eq_true, Bool.or_eq_true, decide_eq_true_eq] at this
  exact ⟨fun h1 => dirW_waits (this.1.resolve_left (by omega)), fun h1 => dirW_waits (this.2.resolve_left (by omega))⟩
theorem wpAny_T {Q : Exit → Act → World → Prop} (hN : ∀ a w, N a w → Q .normal a w) (hc : ChkT ops) : ∀ (fuel : Nat) (listed : Array Bool) (T : World → Prop) (a : Act) (w : World), T w → listed.size = ops.size → Closed ops listed → (rem ops listed).length ≤ fuel →
    wpT P ops N T (rem ops listed) a w → wpAny P .any ops Q fuel listed a w := by
  have fin : ∀ (listed : Array Bool) (T : World → Prop) (a : Act) (w : World), listed.size = ops.size → Region.ready .any ops listed = [] → wpT P ops N T (rem ops listed) a w → Q .normal a w := fun listed T a w hl hr h => by
    have hall : ∀ n j, j < n → j < ops.size → listed.getD j false = true := fun n => by
      induction n with
      | zero => intro j hj; omega
      | succ n ih =>
        intro j hj hlt
        by_cases hjn : j < n
        · exact ih j hjn hlt
        · have hjn' : j = n := by omega
          subst hjn'
          cases hlj : listed.getD j false with
          | true => rfl
          | false =>
            have hun := getD_in (by rw [hl]; exact hlt) hlj
            have ho : ops[j]? = some ops[j] := Array.getElem?_eq_getElem hlt
            have : j ∈ Region.ready .any ops listed := mem_ready.2 ⟨hun, ops[j], ho, fun e he hb => ih e.on (hc.back j _ ho e he hb) (by have := hc.back j _ ho e he hb; omega)⟩
            rw [hr] at this
            cases this
    have hre : rem ops listed = [] := List.filter_eq_nil_iff.2 fun j hj => by
      have := hall (j + 1) j (by omega) (List.mem_range.1 hj)
      unfold unl
      cases h2 : listed.getD j true with
      | true => simp
      | false => rw [getD_both h2] at this; cases this
    rw [hre] at h
    exact hN _ _ h
  intro fuel
  induction fuel with
  | zero =>
    intro listed T a w hT hl hcl hf h
    have hr : Region.ready .any ops listed = [] := by
      rcases hx : Region.ready .any ops listed with _ | ⟨i, l⟩
      · rfl
      · have hm : i ∈ Region.ready .any ops listed := by rw [hx]; exact List.mem_cons_self ..
        obtain ⟨hun, o, ho, _⟩ := mem_ready.1 hm
        have h1 : i ∈ rem ops listed := List.mem_filter.2 ⟨List.mem_range.2 (Array.getElem?_eq_some_iff.1 ho).1, by simp [unl, hun]⟩
        have h2 := List.length_eq_zero_iff.1 (Nat.le_zero.1 hf)
        rw [h2] at h1
        cases h1
    exact ⟨hr, fin listed T a w hl hr h⟩
  | succ fuel ih =>
    intro listed T a w hT hl hcl hf h
    refine ⟨fun hr => fin listed T a w hl hr h, fun i hir => ?_⟩
    obtain ⟨hun, o, ho, hall⟩ := mem_ready.1 hir
    have hlt := (Array.getElem?_eq_some_iff.1 ho).1
    have him : i ∈ rem ops listed := List.mem_filter.2 ⟨List.mem_range.2 hlt, by simp [unl, hun]⟩
    obtain ⟨s, t, hst⟩ := List.append_of_mem him
    have hpw : (s ++ i :: t).Pairwise (· < ·) := by
      rw [← hst]; exact List.Pairwise.filter _ List.pairwise_lt_range
    have hrem : rem ops (listed.setIfInBounds i true) = s ++ t := by
      rw [← filter_ne_mid hpw, ← hst]
      unfold rem
      rw [List.filter_filter]
      refine List.filter_congr fun j hj => ?_
      unfold unl
      by_cases hij : i = j
      · subst hij
        have h0 : i < listed.size := by rw [hl]; exact hlt
        simp [h0]
      · rw [getD_set_ne true hij]
        simp [Ne.symm hij]
    have hlate : ∀ k ∈ s, waitsT ops 200 i k = true → False := fun k hk hw => by
      have hki : k < i := (List.pairwise_append.1 hpw).2.2 k hk i (List.mem_cons_self ..)
      have hku : k ∈ rem ops listed := by rw [hst]; exact List.mem_append_left _ hk
      have hkun : listed.getD k true = false := by
        have := (List.mem_filter.1 hku).2
        simpa [unl] using this
      have : waitsT ops 200 i k = true := hw
      unfold waitsT at this
      rw [Bool.or_eq_true] at this
      rcases this with h3 | h3
      · have : i = k := by simpa using h3
        omega
      · simp only [ho] at h3
        obtain ⟨e, he, hb⟩ := Array.any_eq_true'.1 h3
        simp only [Bool.and_eq_true] at hb
        have h4 := hcl.waits hl 199 e.on k hb.2 (by have := hc.back i o ho e he hb.1; omega) (hall e he hb.1)
        rw [getD_both hkun] at h4
        cases h4
    have hpre : ∀ j ∈ s, totB ops j = false ∧ ∃ p, ops[j]? = some p ∧ p.apart ops o = true ∧ (readK p.op || readK o.op) = true ∧ noSel p := fun k hk => by
      have hki : k < i := (List.pairwise_append.1 hpw).2.2 k hk i (List.mem_cons_self ..)
      have hks : k < ops.size := by omega
      have hkp : ops[k]? = some ops[k] := Array.getElem?_eq_getElem hks
      refine ⟨?_, ops[k], hkp, ?_⟩
      · cases htk : totB ops k with
        | false => rfl
        | true => exact (hlate k hk ((totB_spec htk i hlt).2 hki)).elim
      · rcases hc.ahead i o ho k _ hki hkp with hw | ⟨h1, h2⟩
        · exact (hlate k hk hw).elim
        · exact ⟨h1, h2, hc.sel k _ hkp⟩
    have hti : s ≠ [] → totB ops i = false := fun hs => by
      cases hti : totB ops i with
      | false => rfl
      | true =>
        obtain ⟨k, hk⟩ := List.exists_mem_of_ne_nil s hs
        have hki : k < i := (List.pairwise_append.1 hpw).2.2 k hk i (List.mem_cons_self ..)
        exact (hlate k hk ((totB_spec hti k (by omega)).1 hki)).elim
    rw [hst] at h
    have hpull := wpT_pull i o t ho (hc.sel i o ho) s a w hT hti hpre h
    rw [← hrem] at hpull
    have hcl' : Closed ops (listed.setIfInBounds i true) := fun j oj hj hl' e he hb => by
      by_cases hij : i = j
      · subst hij
        have : oj = o := Option.some.inj (hj.symm.trans ho)
        subst this
        exact getD_set_true (hall e he hb)
      · rw [getD_set_ne false hij] at hl'
        exact getD_set_true (hcl j oj hj hl' e he hb)
    have hlen : (rem ops (listed.setIfInBounds i true)).length ≤ fuel := by
      rw [hrem]; rw [hst] at hf; simp at hf ⊢; omega
    have next : ∀ (T : World → Prop) u w', T w' → wpT P ops N T (rem ops (listed.setIfInBounds i true)) (a.put o.dst u) w' → wpAny P .any ops Q fuel (listed.setIfInBounds i true) (a.put o.dst u) w' := fun T u w' hT' h' =>
      ih _ _ _ _ hT' (by simp [hl]) hcl' hlen h'
    have nextA : ∀ u w', (if totB ops i then ∃ T', T' w' ∧ wpT P ops N T' (rem ops (listed.setIfInBounds i true)) (a.put o.dst u) w' else T w' ∧ wpT P ops N T (rem ops (listed.setIfInBounds i true)) (a.put o.dst u) w') → wpAny P .any ops Q fuel (listed.setIfInBounds i true) (a.put o.dst u) w' := fun u w' h' => by
      split at h'
      · obtain ⟨T', h1, h2⟩ := h'; exact next T' u w' h1 h2
      · exact next T u w' h'.1 h'.2
    unfold wpOp
    simp only [ho]
    by_cases hko : readK o.op = true
    · rw [if_pos hko] at hpull
      obtain ⟨v, hv, h2⟩ := hpull
      have h3 := hv w hT
      unfold Rd1 at h3
      split at h3 <;> rename_i hw
      · rw [if_pos hw]
        obtain ⟨u, h4, h5⟩ := h3
        refine .inl ?_
        unfold Oper.wp
        rw [h4]
        rw [← h5] at h2
        exact next T u w hT h2
      · rw [if_neg hw]
        rw [← h3] at h2
        exact next T _ w hT h2
    · rw [if_neg hko] at hpull
      unfold V1 at hpull
      split at hpull <;> rename_i hw
      · rw [if_pos hw]
        refine .inl ?_
        unfold Oper.wp
        revert hpull
        cases (execOp a.eval o).run P w with
        | halt x w' => exact fun h => h.elim
        | ok n w' =>
          cases n <;> intro h <;> first | exact h.elim | exact nextA _ _ h | skip
          case enter f args =>
            refine Calls.mono h fun e w'' he => ?_
            obtain ⟨v, rfl, h1⟩ := he
            exact nextA v w'' h1
          case row row args => exact Rows.mono h fun u w'' hu => nextA u w'' hu
      · rw [if_neg hw]
        exact nextA _ w hpull
/-- A region that draws its order, in the order of its text. -/
theorem wp_region_T {id : Nat} {a : Act} {w : World} {Q : Exit → Act → World → Prop} (T : World → Prop) (hm : P.follows .mixedOrders = true) (hc : chkT ops = true) (hT : T w.drew) (h : wpT P ops (fun a' w' => Q .normal a' w') T (List.range ops.size) a w.drew) : (Code.region id ops true).wp P Q a w := by
  refine wp_region_any hm (wpAny_T (N := fun a' w' => Q .normal a' w') (fun _ _ h => h) (chkT_spec hc) ops.size _ T a _ hT (by simp) ?_ ?_ ?_)
  · intro j oj _ hl; rw [getD_replicate_false] at hl; cases hl
  · exact Nat.le_trans (List.length_filter_le _ _) (by simp)
  · have h1 : rem ops (Array.replicate ops.size false) = List.range ops.size := List.filter_eq_self.2 fun j hj => by
      simp [unl, Array.getD, List.mem_range.1 hj]
    rw [h1]; exact h
/-- One that reads. -/
theorem wpT_read {i : Nat} {o : Oper} {rest : List Nat} {a A : Act} {w : World} (hi : ops[i]? = some o) (hT : T w) (hk : readK o.op = true) (h1 : ∀ w', T w' → wpList P ops (fun ex a' w'' => ex = .normal ∧ a' = A ∧ w'' = w') [o] a w') (h2 : wpT P ops N T rest A w) : wpT P ops N T (i :: rest) a w := by
  have hv : ∀ w', T w' → ∃ u, A = a.put o.dst u ∧ Rd1 P ops o a w' u := fun w' hw' => by
    have h := h1 w' hw'
    simp only [wpList] at h
    unfold Rd1
    split at h <;> rename_i hw
    · rcases h with h | ⟨_, _, _, hf, _⟩
      case inr => cases hf
      unfold Oper.wp at h
      cases hx : (execOp a.eval o).run P w' with
      | halt x w1 =>
        rw [hx] at h
        cases x <;> simp [Oper.upon] at h
      | ok n w1 =>
        obtain ⟨u, rfl⟩ := readK_value hk hx
        rw [hx] at h
        simp only [Oper.upon] at h
        obtain ⟨_, h3, h4⟩ := h
        subst h4
        exact ⟨u, h3.symm, by rw [if_pos hw]; exact ⟨u, rfl, rfl⟩⟩
    · exact ⟨undef, h.2.1.symm, by rw [if_neg hw]⟩
  obtain ⟨v, hA, _⟩ := hv w hT
  simp only [wpT, hi]
  rw [if_pos hk]
  refine ⟨v, fun w' hw' => ?_, hA ▸ h2⟩
  obtain ⟨u, hu, hr⟩ := hv w' hw'
  have he : a.put o.dst u = a.put o.dst v := hu.symm.trans hA
  unfold Rd1 at *
  split at hr <;> rename_i hw
  · rw [if_pos hw]; obtain ⟨x, h3, h4⟩ := hr; exact ⟨x, h3, h4.trans he⟩
  · rw [if_neg hw]; exact hr.trans he
theorem V1_of {o : Oper} {a : Act} {w : World} {K : Act → World → Prop} (h : wpList P ops (fun ex a' w' => ex = .normal ∧ a'.defers = a.defers ∧ K a' w') [o] a w) : V1 P ops o a w fun u w' => K (a.put o.dst u) w' := by
  simp only [wpList] at h
  unfold V1
  split at h <;> rename_i hw
  · rw [if_pos hw]
    rcases h with h | ⟨_, _, _, hf, _⟩
    case inr => cases hf
    unfold Oper.wp at h
    revert h
    cases (execOp a.eval o).run P w with
    | halt x w' => intro h; cases x <;> simp [Oper.upon] at h
    | ok n w' =>
      cases n <;> intro h <;> simp only [Oper.upon] at h ⊢ <;> first | exact h.elim | exact h.2.2 | skip
      case defer d =>
        have := h.2.1
        rw [put_defers] at this
        exact absurd (congrArg List.length this) (by simp)
      case enter f args =>
        refine Calls.mono h fun e w'' he => ?_
        cases e with
        | returned u => exact ⟨u, rfl, he.2.2⟩
        | panicked c => exact absurd he.1 (by intro h; cases h)
        | outgrown => obtain ⟨_, _, hf, _⟩ := he; cases hf
      case row row args => exact Rows.mono h fun u w'' hu => hu.2.2
  · rw [if_neg hw]; exact h.2.2
/-- One that acts. -/
theorem wpT_act {i : Nat} {o : Oper} {rest : List Nat} {a : Act} {w : World} (hi : ops[i]? = some o) (hk : readK o.op = false) (h : wpList P ops (fun ex a' w' => ex = .normal ∧ a'.defers = a.defers ∧ T w' ∧ wpT P ops N T rest a' w') [o] a w) : wpT P ops N T (i :: rest) a w := by
  simp only [wpT, hi]
  rw [if_neg (by rw [hk]; decide)]
  refine (V1_of h).mono fun u w' hu => ?_
  split
  · exact ⟨T, hu⟩
  · exact hu
/-- One that acts, in one order with all others: behind it another fact may hold. -/
theorem wpT_tot {i : Nat} {o : Oper} {rest : List Nat} {a : Act} {w : World} (T' : World → Prop) (hi : ops[i]? = some o) (hk : readK o.op = false) (ht : totB ops i = true) (h : wpList P ops (fun ex a' w' => ex = .normal ∧ a'.defers = a.defers ∧ T' w' ∧ wpT P ops N T' rest a' w') [o] a w) : wpT P ops N T (i :: rest) a w := by
  simp only [wpT, hi]
  rw [if_neg (by rw [hk]; decide)]
  refine (V1_of h).mono fun u w' hu => ?_
  rw [if_pos ht]; exact ⟨T', hu.1, hu.2⟩
theorem wpT_end {a : Act} {w : World} (h : N a w) : wpT P ops N T [] a w := h
theorem wpT_fin {Q : Exit → Act → World → Prop} {a : Act} {w : World} (h : Q .normal a w) : wpT P ops (fun a' w' => Q .normal a' w') T [] a w := h
end
end Go.Cour
/- Steps over memory that is a list of things side by side; drawn regions whose worlds stay letters. -/
namespace Go.Cour
open Go.RowKit
section
variable {P : Program} {ops : Array Oper} {N : Act → World → Prop} {T : World → Prop}
/-- A region that draws its order, from any world of which T holds. -/
theorem wp_region_L {id : Nat} {a : Act} {w : World} {Q : Exit → Act → World → Prop} (T : World → Prop) (hm : P.follows .mixedOrders = true) (hc : chkT ops = true) (hT : T w.drew) (h : ∀ w', T w' → wpT P ops (fun a' w' => Q .normal a' w') T (List.range ops.size) a w') : (Code.region id ops true).wp P Q a w :=
  wp_region_T T hm hc hT (h _ hT)
/-- Behind an operation that acts: T holds still. -/
def OnT (P : Program) (ops : Array Oper) (N : Act → World → Prop) (T : World → Prop) (rest : List Nat) (a : Act) (ex : Exit) (a' : Act) (w' : World) : Prop := ex = .normal ∧ a'.defers = a.defers ∧ T w' ∧ ∀ w'', T w'' → wpT P ops N T rest a' w''
/-- Behind one that stands in one order with all others: another fact may hold. -/
def OnX (P : Program) (ops : Array Oper) (N : Act → World → Prop) (rest : List Nat) (a : Act) (ex : Exit) (a' : Act) (w' : World) : Prop := ex = .normal ∧ a'.defers = a.defers ∧ ∃ T' : World → Prop, T' w' ∧ ∀ w'', T' w'' → wpT P ops N T' rest a' w''
theorem OnT.mk {rest : List Nat} {a a' : Act} {w' : World} (hd : a'.defers = a.defers) (h : T w') (h2 : ∀ w'', T w'' → wpT P ops N T rest a' w'') : OnT P ops N T rest a .normal a' w' := ⟨rfl, hd, h, h2⟩
theorem OnX.mk {rest : List Nat} {a a' : Act} {w' : World} (T' : World → Prop) (hd : a'.defers = a.defers) (h : T' w') (h2 : ∀ w'', T' w'' → wpT P ops N T' rest a' w'') : OnX P ops N rest a .normal a' w' := ⟨rfl, hd, T', h, h2⟩
theorem wpT_actL {i : Nat} {o : Oper} {rest : List Nat} {a : Act} {w : World} (hi : ops[i]? = some o) (hk : readK o.op = false) (h : wpList P ops (OnT P ops N T rest a) [o] a w) : wpT P ops N T (i :: rest) a w := by
  simp only [wpT, hi]
  rw [if_neg (by rw [hk]; decide)]
  refine (V1_of (K := fun a' w' => T w' ∧ ∀ w'', T w'' → wpT P ops N T rest a' w'') h).mono fun u w' hu => ?_
  split
  · exact ⟨T, hu.1, hu.2 _ hu.1⟩
  · exact ⟨hu.1, hu.2 _ hu.1⟩
theorem wpT_totL {i : Nat} {o : Oper} {rest : List Nat} {a : Act} {w : World} (hi : ops[i]? = some o) (hk : readK o.op = false) (ht : totB ops i = true) (h : wpList P ops (OnX P ops N rest a) [o] a w) : wpT P ops N T (i :: rest) a w := by
  simp only [wpT, hi]
  rw [if_neg (by rw [hk]; decide)]
  refine (V1_of (K := fun a' w' => ∃ T' : World → Prop, T' w' ∧ ∀ w'', T' w'' → wpT P ops N T' rest a' w'') h).mono fun u w' hu => ?_
  obtain ⟨T', h1, h2⟩ := hu
  rw [if_pos ht]; exact ⟨T', h1, h2 _ h1⟩
end
section
variable {P : Program} {ops : Array Oper} {rest : List Oper} {o : Oper} {a : Act} {w w0 : World} {Q : Exit → Act → World → Prop} {F : Nat → Prop} {L : List Ent}
theorem listed_one {w : World} {g : Nat} {t : TypeId} {cs : List Value} (h : Blk w g t cs) (j : Nat) (v : Value) : (w.setCells g j [v]) = w.setCell ⟨g, j, none⟩ v := by
  simp [World.setCells]
theorem there_blk {w : World} {g : Nat} {t : TypeId} {cs : List Value} (h : Blk w g t cs) {j n : Nat} (hn : j + n ≤ cs.length) : w.there g j n := fun i hi => by
  refine ⟨?_, ?_⟩
  · rw [h.cell, List.getElem?_eq_getElem (by omega)]; rfl
  · exact h.frozen _
theorem setCells_blk {g : Nat} {t : TypeId} : ∀ (vs : List Value) {w : World} {cs : List Value} (j : Nat), Blk w g t cs → j + vs.length ≤ cs.length → Blk (w.setCells g j vs) g t (cs.take j ++ vs ++ cs.drop (j + vs.length))
  | [], w, cs, j, h, _ => by simpa [World.setCells] using h
  | v :: vs, w, cs, j, h, hl => by
    have h1 := h.set j v
    have h2 := setCells_blk vs (j + 1) h1 (by simp at hl ⊢; omega)
    simp only [World.setCells]
    have e : (cs.set j v).take (j + 1) ++ vs ++ (cs.set j v).drop (j + 1 + vs.length) = cs.take j ++ (v :: vs) ++ cs.drop (j + (v :: vs).length) := by
      simp only [List.length_cons] at hl
      rw [List.drop_set_of_lt (by omega), List.take_succ_eq_append_getElem (by simp; omega), List.getElem_set_self, List.take_set_of_le (Nat.le_refl _)]
      simp [Nat.add_assoc, Nat.add_comm 1]
    rw [e] at h2
    exact h2
theorem setCells_upd {g : Nat} : ∀ (vs : List Value) (w : World) (j : Nat), Upd (fun k => k = g) w (w.setCells g j vs)
  | [], w, j => Upd.refl _ _
  | v :: vs, w, j => by
    simp only [World.setCells]
    exact ((Upd.setCell w ⟨g, j, none⟩ v).mono fun _ _ hk => hk).trans (setCells_upd vs _ (j + 1)) fun _ _ hk => hk
theorem HS.setCells (h : HS F w0 w L) (i : Nat) {g : Nat} {t : TypeId} {cs : List Value} (hi : L[i]? = some (.blk g t cs)) (j : Nat) (vs : List Value) (hl : j + vs.length ≤ cs.length) : HS F w0 (w.setCells g j vs) (L.set i (.blk g t (cs.take j ++ vs ++ cs.drop (j + vs.length)))) :=
  h.upd1 i hi (setCells_upd vs w j) _ (setCells_blk vs j (h.blk i hi) hl) fun k hk => .inl hk
/-- A cell stored. -/
theorem hs_store1 (hS : HS F w0 w L) (i : Nat) {g : Nat} {t : TypeId} {cs : List Value} (hi : L[i]? = some (.blk g t cs)) (hw : Region.wanted o (yielded ops a.tmps) = true) (ty : TypeId) (x y : Operand) (ho : o.op = .store ty x y)
    (j : Nat) (hx : a.eval x = .pointer (some ⟨g, j, none⟩)) (v : Value) (hv : a.eval y = v) (h1 : v.oneCell' = true) (hs : (P.info? ty).map (·.size) = some 1) (hj : j < cs.length) (d : Option Tmp) (hd : o.dst = d)
    (h : ∀ w', HS F w0 w' (L.set i (.blk g t (cs.set j v))) → wpList P ops Q rest (a.put d undef) w') : wpList P ops Q (o :: rest) a w := by
  subst hd
  refine wpList_step fun K hK => ?_
  rw [if_pos hw]
  have hc : v.cells = #[v] := by cases v <;> first | rfl | cases h1
  have hb := hS.blk i hi
  have hcell : w.cell? ⟨g, j, none⟩ = some cs[j] := by rw [hb.cell, List.getElem?_eq_getElem hj]
  have hfz := hb.frozen j
  have hrun : (storeVar ty ⟨g, j, none⟩ v).run P w = .ok () (w.setCell ⟨g, j, none⟩ v) := by
    cases hq : P.info? ty with
    | none => simp [hq] at hs
    | some z =>
      have hz : z.size = 1 := by simpa [hq] using hs
      have := run_storeVar_mid (P := P) w g j ty #[v] (there_blk hb (by simp; omega)) (by simp [hq, hz]) (by simpa using h1)
      have h2 : storeVar ty ⟨g, j, none⟩ v = storeVar ty ⟨g, j, none⟩ (.agg #[v]) := by
        have e1 : (Value.agg #[v]).cells = #[v] := rfl
        unfold storeVar
        rw [hc, e1]
      rw [h2, this, listed_one hb]
  unfold Oper.wp execOp
  simp only [ho, hx, hv, Instr.storeAt, Instr.sureAddr, Sem.run_bind, Sem.run_pure, Result.andThen_ok, hrun]
  exact hK _ _ (h _ (hS.setCell i hi j v))
/-- Cells stored, a whole array or struct. -/
theorem hs_storeN (hS : HS F w0 w L) (i : Nat) {g : Nat} {t : TypeId} {cs : List Value} (hi : L[i]? = some (.blk g t cs)) (hw : Region.wanted o (yielded ops a.tmps) = true) (ty : TypeId) (x y : Operand) (ho : o.op = .store ty x y)
    (j : Nat) (hx : a.eval x = .pointer (some ⟨g, j, none⟩)) (vs : List Value) (hv : a.eval y = .agg vs.toArray) (h1 : ∀ v ∈ vs, v.oneCell' = true) (n : Nat) (hs : (P.info? ty).map (·.size) = some n) (hn : vs.length = n) (hj : j + n ≤ cs.length) (d : Option Tmp) (hd : o.dst = d)
    (h : ∀ w', HS F w0 w' (L.set i (.blk g t (cs.take j ++ vs ++ cs.drop (j + n)))) → wpList P ops Q rest (a.put d undef) w') : wpList P ops Q (o :: rest) a w := by
  subst hd hn
  refine wpList_step fun K hK => ?_
  rw [if_pos hw]
  exact wp_store_mid ty x y ho g j vs.toArray hx hv (by simpa using there_blk (hS.blk i hi) hj) (by simpa using hs) (all_oneCell_toArray h1) (hK _ _ (h _ (hS.setCells i hi j vs hj)))
/-- Cells loaded: an array or a struct, whole. -/
theorem hs_loadN (hS : HS F w0 w L) (i : Nat) {g : Nat} {t : TypeId} {cs : List Value} (hi : L[i]? = some (.blk g t cs)) (hw : Region.wanted o (yielded ops a.tmps) = true) (ty : TypeId) (x : Operand) (ho : o.op = .load ty x)
    (j : Nat) (hx : a.eval x = .pointer (some ⟨g, j, none⟩)) (vs : List Value) (hc : ∀ m v, vs[m]? = some v → cs[j + m]? = some v) (n : Nat) (hs : (P.info? ty).map (·.size) = some n) (hn : vs.length = n) (b : TypeDesc) (hu : P.underlying ty = some b) (hb : b.isRow = true) (d : Option Tmp) (hd : o.dst = d)
    (h : wpList P ops Q rest (a.put d (.agg vs.toArray)) w) : wpList P ops Q (o :: rest) a w := by
  subst hd hn
  refine wpList_step fun K hK => ?_
  rw [if_pos hw]
  exact wp_load_mid ty x ho g j hx vs b (fun m v hv => by rw [(hS.blk i hi).cell]; exact hc m v hv) hu hb hs (hK _ _ h)
/-- A cell loaded. -/
theorem hs_load1 (hS : HS F w0 w L) (i : Nat) {g : Nat} {t : TypeId} {cs : List Value} (hi : L[i]? = some (.blk g t cs)) (hw : Region.wanted o (yielded ops a.tmps) = true) (ty : TypeId) (x : Operand) (ho : o.op = .load ty x)
    (j : Nat) (hx : a.eval x = .pointer (some ⟨g, j, none⟩)) (v : Value) (hc : cs[j]? = some v) (b : TypeDesc) (hu : P.underlying ty = some b) (hb : b.isRow = false) (d : Option Tmp) (hd : o.dst = d)
    (h : wpList P ops Q rest (a.put d v) w) : wpList P ops Q (o :: rest) a w := by
  subst hd
  refine wpList_step fun K hK => ?_
  rw [if_pos hw]
  have hcell : w.cell? ⟨g, j, none⟩ = some v := by rw [(hS.blk i hi).cell]; exact hc
  have hagg : (isAgg ty).run P w = .ok false w := by
    unfold isAgg
    rw [Sem.run_bind, run_underlying hu w]
    cases b <;> simp_all
  have hrun : (loadVar ty ⟨g, j, none⟩).run P w = .ok v w := by
    simp [loadVar, Sem.run_bind, hagg, hcell]
  unfold Oper.wp execOp
  simp only [ho, hx, Instr.loadAt, Instr.sureAddr, Sem.run_bind, Sem.run_pure, Result.andThen_ok, hrun]
  exact hK _ _ h
/-- A whole block stored anew. -/
theorem hs_storeW (hS : HS F w0 w L) (i : Nat) {g : Nat} {t : TypeId} {cs : List Value} (hi : L[i]? = some (.blk g t cs)) (hw : Region.wanted o (yielded ops a.tmps) = true) (ty : TypeId) (x y : Operand) (ho : o.op = .store ty x y)
    (hx : a.eval x = .pointer (some ⟨g, 0, none⟩)) (vs : List Value) (hv : a.eval y = .agg vs.toArray) (h1 : ∀ v ∈ vs, v.oneCell' = true) (n : Nat) (hs : (P.info? ty).map (·.size) = some n) (hn : vs.length = n) (hc : cs.length = n) (d : Option Tmp) (hd : o.dst = d)
    (h : ∀ w', HS F w0 w' (L.set i (.blk g t vs)) → wpList P ops Q rest (a.put d undef) w') : wpList P ops Q (o :: rest) a w := by
  refine hs_storeN hS i hi hw ty x y ho 0 hx vs hv h1 n hs hn (by omega) d hd fun w' hS' => h w' ?_
  rw [List.take_zero, List.nil_append, Nat.zero_add, List.drop_eq_nil_of_le (by omega), List.append_nil] at hS'
  exact hS'
/-- A whole block loaded. -/
theorem hs_loadW (hS : HS F w0 w L) (i : Nat) {g : Nat} {t : TypeId} {vs : List Value} (hi : L[i]? = some (.blk g t vs)) (hw : Region.wanted o (yielded ops a.tmps) = true) (ty : TypeId) (x : Operand) (ho : o.op = .load ty x)
    (hx : a.eval x = .pointer (some ⟨g, 0, none⟩)) (n : Nat) (hs : (P.info? ty).map (·.size) = some n) (hn : vs.length = n) (b : TypeDesc) (hu : P.underlying ty = some b) (hb : b.isRow = true) (d : Option Tmp) (hd : o.dst = d)
    (h : wpList P ops Q rest (a.put d (.agg vs.toArray)) w) : wpList P ops Q (o :: rest) a w :=
  hs_loadN hS i hi hw ty x ho 0 hx vs (fun m v hv => by rw [Nat.zero_add]; exact hv) n hs hn b hu hb d hd h
end
theorem bodyPost_void {P : Program} {fn : Func} {R : Ending → World → Prop} {a : Act} {w : World} (hr : fn.results = #[]) (hd : a.defers = []) (hR : R (.returned (.tuple #[])) w) : bodyPost P fn R .normal a w :=
  bodyPost_end (results_none hr _ _ _) hd hR
end Go.Cour
/- s[f:], and copy over what one owns. -/
namespace Go.Cour
open Go.RowKit
section
variable {P : Program} {w : World} {ops : Array Oper} {rest : List Oper} {o : Oper} {a : Act} {Q : Exit → Act → World → Prop}
/-- Where s[f:] begins. -/
def cutA (A : Option Addr) (c f : Nat) : Option Addr := if c = f then A else A.map (·.add f)
theorem cutA_some {A : Option Addr} {c f m : Nat} (hf : f < m) (hmc : m ≤ c) : cutA A c f = A.map (·.add f) := by unfold cutA; rw [if_neg (by omega)]
theorem cutA_none {A : Option Addr} {c f : Nat} (hA : A = none → c = 0) (h : cutA A c f = none) : c - f = 0 := by
  unfold cutA at h
  split at h
  · omega
  · have := hA (by simpa using h)
    omega
theorem slice_cut (hw : Region.wanted o (yielded ops a.tmps) = true) (x y : Operand) (t : TypeId) (ho : o.op = .slice t x (some y) none none) (e : TypeId)
    (hu : P.underlying t = some (.slice e)) (hsz : (P.info? e).map (·.size) = some 1) (k : IntKind) (A : Option Addr) (m c f : Nat) (hx : a.eval x = .slice A m c) (hy : a.eval y = .int k (f : Int)) (hf : f ≤ m)
    (h : wpList P ops Q rest (a.put o.dst (.slice (cutA A c f) (m - f) (c - f))) w) : wpList P ops Q (o :: rest) a w := by
  obtain ⟨i, hi, hs⟩ : ∃ i, P.info? e = some i ∧ i.size = 1 := by
    cases hie : P.info? e with
    | none => simp [hie] at hsz
    | some i => exact ⟨i, rfl, by simpa [hie] using hsz⟩
  refine wpList_step fun K hK => ?_
  rw [if_pos hw]
  have hs2 : (sizeOf e).run P w = .ok 1 w := by simp [sizeOf, typeInfo, hi, hs]
  have hrun : (Instr.slice t (.slice A m c) (some (.int k (f : Int))) none none).run P w = .ok (.slice (cutA A c f) (m - f) (c - f)) w := by
    simp [Instr.slice, run_underlying hu, Instr.sliceBounds, run_sliceBound, hs2, hf, cutA]
  have hrun2 : (Instr.sliceAt t (.slice A m c) (some (.int k (f : Int))) none none).run P w = .ok (.slice (cutA A c f) (m - f) (c - f)) w := by
    rw [← hrun]; simp [Instr.sliceAt, run_underlying hu]
  unfold Oper.wp execOp
  simp only [ho, hx, hy, Option.map_some, Option.map_none]
  simp only [Sem.run_bind, Sem.run_pure, hrun2, Result.andThen_ok, Functor.map]
  first
    | exact hK _ _ h
    | (simp [hrun2]; exact hK _ _ h)
/-- s[f:] reads what stands from f on. -/
theorem rd_from {A A' : Option Addr} {k : IntKind} {xs : List Int} {f : Nat} (h : Rd w A k xs) (hA : f < xs.length → A' = A.map (·.add f)) : Rd w A' k (xs.drop f) := by
  by_cases hf : f < xs.length
  · rw [hA hf]
    rcases h with h | ⟨g, o, rfl, h⟩
    · exact .inl (by rw [h]; simp)
    · refine .inr ⟨g, o + f, by rw [Option.map_some, add_lit], fun i hi => ?_⟩
      rw [rd_drop, Nat.add_assoc]
      exact h _ (by rw [List.length_drop] at hi; omega)
  · exact .inl (List.drop_eq_nil_of_le (by omega))
/-- What stands behind copy(s[f:], ys). -/
def laid (xs : List Int) (f n : Nat) (ys : List Int) : List Int := xs.take f ++ ys.take n ++ xs.drop (f + n)
theorem laid_length {xs ys : List Int} {f n : Nat} (h1 : f + n ≤ xs.length) (h2 : n ≤ ys.length) : (laid xs f n ys).length = xs.length := by simp [laid]; omega
theorem copy_own (hgd : o.guard = none) (d s : Operand) (dT sT : TypeId)
    (ho : o.op = .call { callee := .builtin .copy, args := #[d, s], argTypes := #[dT, sT] }) (e : TypeId) (hu : P.underlying dT = some (.slice e)) (hsz : (P.info? e).map (·.size) = some 1)
    (k : IntKind) (x : Value) (xs : List Int) (hown : Own w 0 e k x xs) (A : Option Addr) (m c : Nat) (hx : x = .slice A m c) (hm : xs.length = m) (f : Nat) (hf : f ≤ m)
    (A' : Option Addr) (dCap : Nat) (hd : a.eval d = .slice A' (m - f) dCap) (hA' : f < m → A' = A.map (·.add f))
    (Ab : Option Addr) (q sCap : Nat) (ys : List Int) (hs : a.eval s = .slice Ab q sCap) (hq : ys.length = q) (hr : Rd w Ab k ys) (n : Nat) (hn : n = min q (m - f))
    (h : ∀ w', Own w' 0 e k x (laid xs f n ys) → Upd (fun j => x.ownBlock = some j) w w' → wpList P ops Q rest (a.put o.dst (.int .i64 (n : Int))) w') : wpList P ops Q (o :: rest) a w := by
  by_cases h0 : n = 0
  · subst h0
    refine wpList_copy_nothing hgd d s dT sT ho e hu hsz A' Ab (m - f) dCap q sCap hd hs hn.symm ?_
    exact h w (by unfold laid; rw [List.take_zero, List.append_nil, Nat.add_zero, List.take_append_drop]; exact hown) (Upd.refl _ _)
  · have hown0 := hown
    obtain ⟨h1, ⟨h2, h3⟩ | ⟨g, cap, cur, h2, hbg, hh, hnc, hcm, hcs, ht⟩⟩ := hown
    · omega
    · obtain ⟨rfl, hmm, rfl⟩ : A = some ⟨g, 0, none⟩ ∧ m = xs.length ∧ c = cap := by
        rw [hx] at h2; injection h2 with h2 h3 h4; exact ⟨h2, h3, h4⟩
      have hA2 : A' = some ⟨g, f, none⟩ := by rw [hA' (by omega), Option.map_some, add_lit, Nat.zero_add]
      subst hA2
      have hl : (ints k (ys.take n)).length = n := by simp; omega
      obtain ⟨gb, ob, rfl, hcell⟩ : ∃ gb ob, Ab = some ⟨gb, ob, none⟩ ∧ ∀ i, i < ys.length → w.cell? ⟨gb, ob + i, none⟩ = some (.int k (rd ys i)) := by
        rcases hr with hr | hr
        · rw [hr] at hq; simp at hq; omega
        · exact hr
      refine wpList_copy_own hgd d s dT sT ho e hu hsz g f (m - f) dCap ⟨gb, ob, none⟩ q sCap hd hs cur e hh (ints k (ys.take n)) (by rw [hl]; exact hn) ?_ (by rw [hl]; omega) ?_ ?_
      · intro j v hj
        have hj' : j < n := by have := (List.getElem?_eq_some_iff.1 hj).1; omega
        have hjl : j < ys.length := by omega
        rw [ints_get k _ j (by simp; omega)] at hj
        injection hj with hj
        subst hj
        rw [rd_take _ _ _ hj', add_lit]
        exact hcell j hjl
      · intro v hv
        obtain ⟨y, _, rfl⟩ := List.mem_map.1 hv
        rfl
      · rw [hl]
        have hsplit : cur.toList = ints k xs ++ cur.toList.drop m := by
          rw [← List.take_append_drop m cur.toList, List.drop_left' (by simp; omega)]
          rw [Nat.mul_one, ← hmm] at ht
          rw [ht]
        have hrow : cur.toList.take f ++ (ints k (ys.take n) ++ cur.toList.drop (f + n)) = ints k (laid xs f n ys) ++ cur.toList.drop m := by
          generalize cur.toList.drop m = R at hsplit
          have hlx : (ints k xs).length = m := by simp; omega
          rw [hsplit, List.take_append_of_le_length (by omega), List.drop_append_of_le_length (by omega)]
          simp [laid, ints, List.map_take, List.map_drop]
        have hlen := laid_length (xs := xs) (ys := ys) (f := f) (n := n) (by omega) (by omega)
        refine h _ ⟨by simp, .inr ⟨g, c, _, by rw [h2, hlen], Nat.zero_le _, setRow_heap w g cur _ e _ hh, by omega, hcm, ?_, ?_⟩⟩ ((Upd.setRow w g _).mono fun j _ hj => by subst hj; rw [h2]; rfl)
        · simp; omega
        · rw [hrow, List.take_left' (by simp)]
end
end Go.Cour
/- Slices of one's own, wherever they begin in their block: read, cut, appended to, written. -/
namespace Go.Cour
open Go.RowKit
/-- The slice value v, of the cells cs, is one's own. -/
def OwnS (w : World) (e : TypeId) (v : Value) (cs : List Value) : Prop :=
  (v = .slice none 0 0 ∧ cs = []) ∨ ∃ g off c cur, v = .slice (some ⟨g, off, none⟩) cs.length c ∧ w.heap[g]? = some (.cells cur e (0, 0)) ∧ cs.length ≤ c ∧ off + c ≤ cur.size ∧ c ≤ maxLen ∧ ∀ j u, cs[j]? = some u → cur[off + j]? = some u
section
variable {w w' : World} {e : TypeId} {v v' : Value} {cs : List Value}
theorem OwnS.nil (w : World) (e : TypeId) : OwnS w e (.slice none 0 0) [] := .inl ⟨rfl, rfl⟩
theorem OwnS.lt (h : OwnS w e v cs) (j : Nat) (hj : v.ownBlock = some j) : j < w.heap.size := by
  rcases h with ⟨rfl, _⟩ | ⟨g, off, c, cur, rfl, hh, _⟩
  · simp [Value.ownBlock] at hj
  · have : g = j := by simpa [Value.ownBlock] using hj
    subst this
    exact (Array.getElem?_eq_some_iff.1 hh).1
theorem OwnS.kept (h : OwnS w e v cs) (hk : ∀ j, v.ownBlock = some j → w'.heap[j]? = w.heap[j]?) : OwnS w' e v cs := by
  rcases h with h | ⟨g, off, c, cur, rfl, hh, r⟩
  · exact .inl h
  · exact .inr ⟨g, off, c, cur, rfl, (hk g rfl).trans hh, r⟩
theorem OwnS.below (h : OwnS w e v cs) (hb : Below w.heap.size w w') : OwnS w' e v cs := h.kept fun j hj => hb.block j (h.lt j hj)
theorem OwnS.parts (h : OwnS w e v cs) : ∃ A c, v = .slice A cs.length c ∧ cs.length ≤ c ∧ c ≤ maxLen ∧ (A = none → c = 0) ∧ (∀ a, A = some a → v.ownBlock = some a.block) ∧ ∀ j u, cs[j]? = some u → ∃ g off, A = some ⟨g, off, none⟩ ∧ w.cell? ⟨g, off + j, none⟩ = some u := by
  rcases h with ⟨rfl, rfl⟩ | ⟨g, off, c, cur, rfl, hh, h1, h2, h3, h4⟩
  · exact ⟨none, 0, rfl, Nat.le_refl _, by unfold maxLen; omega, fun _ => rfl, fun a ha => (by cases ha), fun j u hu => by simp at hu⟩
  · exact ⟨_, c, rfl, h1, h3, (fun ha => by cases ha), (fun a ha => by injection ha with ha; subst ha; rfl), fun j u hu => ⟨g, off, rfl, by rw [cell_of_row w g _ cur e (0, 0) hh]; exact h4 j u hu⟩⟩
theorem OwnS.ofRow {b : Nat} (h : w.ownsRow b e 1 v cs.length cs) : OwnS w e v cs := by
  obtain ⟨h1, ⟨rfl, h2⟩ | ⟨g, cap, cur, rfl, hg, hh, hn, hm, hs, ht⟩⟩ := h
  · exact .inl ⟨rfl, List.eq_nil_of_length_eq_zero h2⟩
  · refine .inr ⟨g, 0, cap, cur, rfl, hh, hn, by omega, hm, fun j u hu => ?_⟩
    rw [← ht, Nat.mul_one, List.getElem?_take] at hu
    split at hu
    · simpa using hu
    · cases hu
theorem Own.os {b : Nat} {k : IntKind} {xs : List Int} (h : Own w b e k v xs) : OwnS w e v (ints k xs) := OwnS.ofRow (b := b) (by
  have : xs.length = (ints k xs).length := by simp
  unfold Own at h
  rwa [this] at h)
theorem OwnV.os {b : Nat} (h : OwnV w b e v cs) : OwnS w e v cs := OwnS.ofRow h
theorem OwnS.ofBlk {g : Nat} (h : Blk w g e cs) (hm : cs.length ≤ maxLen) : OwnS w e (.slice (some ⟨g, 0, none⟩) cs.length cs.length) cs :=
  .inr ⟨g, 0, cs.length, cs.toArray, rfl, h, Nat.le_refl _, by simp, hm, fun j u hu => by simpa using hu⟩
/-- It reads as numbers. -/
theorem OwnS.rd {k : IntKind} {xs : List Int} (h : OwnS w e v (ints k xs)) {A : Option Addr} {n c : Nat} (hv : v = .slice A n c) : Rd w A k xs := by
  rcases h with ⟨rfl, h⟩ | ⟨g, off, c', cur, rfl, hh, h1, h2, h3, h4⟩
  · left; simpa [ints] using h
  · injection hv with hv
    subst hv
    exact .inr ⟨g, off, rfl, fun i hi => by rw [cell_of_row w g _ cur e (0, 0) hh]; exact h4 i _ (ints_get k xs i hi)⟩
theorem OwnS.len {A : Option Addr} {n c : Nat} (h : OwnS w e (.slice A n c) cs) : n = cs.length ∧ n ≤ c ∧ c ≤ maxLen ∧ (A = none → c = 0) := by
  obtain ⟨A', c', hv, h1, h2, h3, _⟩ := h.parts
  injection hv with hv1 hv2 hv3
  subst hv1 hv2 hv3
  exact ⟨rfl, h1, h2, h3⟩
theorem OwnS.cut {A : Option Addr} {n c : Nat} (h : OwnS w e (.slice A n c) cs) (f : Nat) (hf : f ≤ n) : OwnS w e (.slice (cutA A c f) (n - f) (c - f)) (cs.drop f) := by
  rcases h with ⟨hv, rfl⟩ | ⟨g, off, c', cur, hv, hh, h1, h2, h3, h4⟩
  · injection hv with hv1 hv2 hv3
    subst hv1 hv2 hv3
    obtain rfl : f = 0 := by omega
    exact .inl ⟨by simp [cutA], by simp⟩
  · injection hv with hv1 hv2 hv3
    subst hv1 hv2 hv3
    unfold cutA
    by_cases hc : c = f
    · rw [if_pos hc]
      refine .inr ⟨g, off, c - f, cur, by simp, hh, by simp; omega, by omega, by omega, fun j u hu => ?_⟩
      rw [List.getElem?_drop] at hu
      have := (List.getElem?_eq_some_iff.1 hu).1
      omega
    · rw [if_neg hc]
      refine .inr ⟨g, off + f, c - f, cur, by simp [add_lit], hh, by simp; omega, by omega, by omega, fun j u hu => ?_⟩
      rw [List.getElem?_drop] at hu
      rw [Nat.add_assoc]
      exact h4 _ _ hu
theorem cutA_own {A : Option Addr} {c f n m n' c' : Nat} (j : Nat) (h : (Value.slice (cutA A c f) n m).ownBlock = some j) : (Value.slice A n' c').ownBlock = some j := by
  unfold cutA at h
  split at h
  · cases A with
    | none => simp [Value.ownBlock] at h
    | some a => simpa [Value.ownBlock] using h
  · cases A with
    | none => simp [Value.ownBlock] at h
    | some a => simp [Value.ownBlock] at h ⊢; rw [← h]; simp [Addr.add]; split <;> rfl
/-- A place of it written. -/
theorem OwnS.set (h : OwnS w e v cs) {g off n c : Nat} (hv : v = .slice (some ⟨g, off, none⟩) n c) (j : Nat) (u : Value) (hj : j < cs.length) : OwnS (w.setCell ⟨g, off + j, none⟩ u) e v (cs.set j u) := by
  rcases h with ⟨rfl, rfl⟩ | ⟨g', off', c', cur, hv', hh, h1, h2, h3, h4⟩
  · simp at hj
  · rw [hv] at hv'
    injection hv' with hv1 hv2 hv3
    injection hv1 with hv1
    injection hv1 with hv1 hv4
    subst hv1 hv2 hv3 hv4
    refine .inr ⟨g, off, c, cur.setIfInBounds (off + j) u, by rw [hv, List.length_set], heap_setCell_same w g (off + j) cur e _ hh, by simpa using h1, by simpa using h2, h3, fun i x hx => ?_⟩
    by_cases hij : j = i
    · subst hij
      rw [List.getElem?_set_self hj] at hx
      rw [Array.getElem?_setIfInBounds]
      simp [← hx]; omega
    · rw [List.getElem?_set_ne hij] at hx
      rw [Array.getElem?_setIfInBounds_ne (by omega)]
      exact h4 i x hx
theorem OwnS.frozen (h : OwnS w e v cs) {g off n c : Nat} (hv : v = .slice (some ⟨g, off, none⟩) n c) (j : Nat) : w.frozen? ⟨g, j, none⟩ = false := by
  rcases h with ⟨rfl, rfl⟩ | ⟨g', off', c', cur, hv', hh, _⟩
  · cases hv
  · rw [hv] at hv'
    injection hv' with hv1
    injection hv1 with hv1
    injection hv1 with hv1
    subst hv1
    simp [World.frozen?, hh]
end
def Ent.os (e : TypeId) (v : Value) (cs : List Value) : Ent where
  F := fun j => v.ownBlock = some j
  p := fun w => OwnS w e v cs
  lt := fun h j hj => h.lt j hj
  kept := fun h hk => h.kept hk
section
variable {P : Program} {w w0 : World} {F : Nat → Prop} {L : List Ent}
theorem HS.os (h : HS F w0 w L) (i : Nat) {t : TypeId} {v : Value} {cs : List Value} (hi : L[i]? = some (.os t v cs)) : OwnS w t v cs := h.mem.get hi
theorem firstCells_none {w : World} {n : Nat} (h : n = 0) : True := trivial
/-- append, whatever lies behind the slice. -/
theorem run_append_os (t ty e : TypeId) (bytes : Nat) (ht : P.underlying t = some (.slice e)) (hi : (P.info? e).map (fun i => (i.size, i.bytes)) = some (1, bytes)) (hz : (((P.info? e).bind (·.zero)).map (·.cells.size)) = some 1)
    (v : Value) (cs : List Value) (hown : OwnS w e v cs) (A : Option Addr) (m c : Nat) (news : List Value) (hl : news.length = m) (hnews : ∀ j u, news[j]? = some u → ∃ ad, A = some ad ∧ w.cell? (ad.add j) = some u) (h1 : ∀ u ∈ news, u.oneCell' = true)
    (hbytes : (cs.length + m) * bytes ≤ 140737488355328) (h63 : cs.length + m ≤ 140737488355328) :
    ∃ v' w', (Builtin.append_ #[t, t] ty #[v, .slice A m c]).run P w = .ok v' w' ∧ OwnS w' e v' (cs ++ news) ∧ Upd (fun j => v.ownBlock = some j) w w' ∧ ∀ k, v'.ownBlock = some k → v.ownBlock = some k ∨ w.heap.size ≤ k := by
  obtain ⟨i, hi0, hi1, hi2⟩ : ∃ i, P.info? e = some i ∧ i.size = 1 ∧ i.bytes = bytes := by
    cases hq : P.info? e with
    | none => simp [hq] at hi
    | some i => simp [hq] at hi; exact ⟨i, rfl, hi.1, hi.2⟩
  obtain ⟨z, hz0, hz1⟩ : ∃ z, i.zero = some z ∧ z.cells.size = 1 := by
    cases hq : i.zero with
    | none => simp [hi0, hq] at hz
    | some z => simp [hi0, hq] at hz; exact ⟨z, rfl, hz⟩
  by_cases hm : m = 0
  · have hnil : news = [] := List.eq_nil_of_length_eq_zero (by omega)
    subst hnil hm
    refine ⟨v, w, ?_, by simpa using hown, Upd.refl _ _, fun k hk => .inl hk⟩
    have hr : ∀ (B : Option Addr) (n cap : Nat), n ≤ cap → v = .slice B n cap → (B = none → cap = 0) → (Builtin.append_ #[t, t] ty #[.slice B n cap, .slice A 0 c]).run P w = .ok (.slice B n cap) w := fun B n cap hnc hv hB => by
      cases B with
      | none =>
        have := hB rfl
        obtain rfl : n = 0 := by omega
        cases A <;> simp [Builtin.append_, run_underlying ht, sizeOf, typeInfo, hi0, Builtin.lenOf, Builtin.firstCells, loadCells, loadCellsFrom]
      | some b => cases A <;> simp [Builtin.append_, run_underlying ht, sizeOf, typeInfo, hi0, Builtin.lenOf, hnc, Builtin.firstCells, loadCells, loadCellsFrom, storeCells]
    obtain ⟨B, cap, hv, hnc, _, hB, _⟩ := hown.parts
    rw [hv]; exact hr B cs.length cap hnc hv hB
  · obtain ⟨ad, rfl⟩ : ∃ ad, A = some ad := by
      cases news with
      | nil => simp at hl; omega
      | cons u us => obtain ⟨ad, h, _⟩ := hnews 0 u (by simp); exact ⟨ad, h⟩
    have hnews' : ∀ j u, news[j]? = some u → w.cell? (ad.add j) = some u := fun j u hu => by
      obtain ⟨ad', h, h2⟩ := hnews j u hu
      injection h with h; subst h; exact h2
    rcases hown with ⟨rfl, rfl⟩ | ⟨g, off, cap, cur, rfl, hh, hn, hfit, hcm, hcs⟩
    · have hr := run_append_nil (P := P) w t ty e i z ht hi0 hz0 ad m c news (by rw [hl, hi1, Nat.mul_one]) hnews' (by omega) (by omega) (by rw [hi2]; simp at hbytes; omega)
      refine ⟨_, _, hr, ?_, Upd.of_below ((below_drewN (Below.refl w.heap.size w) 1).alloc (Nat.le_refl _) _) _, fun k hk => .inr ?_⟩
      · refine .inr ⟨w.heap.size, 0, _, _, by rw [List.nil_append, hl], heap_alloc_new w.drew _, ?_, ?_, grownCap_le_maxLen w m 0 e (by unfold maxLen; simp at h63; omega), fun j u hu => ?_⟩
        · rw [List.nil_append, hl]; exact grownCap_ge w m 0 e
        · have := grownCap_ge w m 0 e
          simp only [Array.size_append, List.size_toArray, size_zeroCells, hz1, hl]; omega
        · rw [List.nil_append] at hu
          have hlt := (List.getElem?_eq_some_iff.1 hu).1
          rw [Nat.zero_add, Array.getElem?_append_left (by simpa using hlt)]
          simpa using hu
      · have : w.heap.size = k := by simpa [Value.ownBlock] using hk
        omega
    · have holds : ∀ j u, cs[j]? = some u → w.cell? ((⟨g, off, none⟩ : Addr).add j) = some u := fun j u hu => by
        rw [add_lit, cell_of_row w g _ cur e (0, 0) hh]; exact hcs j u hu
      by_cases hroom : cs.length + m ≤ cap
      · have hr := run_append_room_cells (P := P) w t ty e i ht hi0 g off cs.length cap ad m c news (by rw [hl, hi1, Nat.mul_one]) hnews' h1 hroom
          (fun j hj => by rw [hi1, Nat.mul_one, cell_of_row w g _ cur e (0, 0) hh, Array.getElem?_eq_getElem (by omega)]; rfl)
          (fun j hj => by simp [World.frozen?, hh])
        rw [hi1, Nat.mul_one] at hr
        refine ⟨_, _, hr, ?_, (setCells_upd news w _).mono fun k _ hk => by simp [Value.ownBlock]; exact hk.symm, fun k hk => .inl (by simpa [Value.ownBlock] using hk)⟩
        have hb : Blk w g e cur.toList := by unfold Blk; simpa using hh
        have hb2 := setCells_blk news (off + cs.length) hb (by simp; omega)
        refine .inr ⟨g, off, cap, _, by rw [List.length_append, hl], hb2, by rw [List.length_append]; omega, by simp; omega, hcm, fun j u hu => ?_⟩
        rw [List.getElem?_append] at hu
        simp only [List.getElem?_toArray]
        rw [List.append_assoc]
        split at hu
        · rename_i hlt
          rw [List.getElem?_append_left (by simp; omega), List.getElem?_take, if_pos (by omega)]
          simpa using hcs j u hu
        · rename_i hge
          have hlt := (List.getElem?_eq_some_iff.1 hu).1
          rw [List.getElem?_append_right (by simp; omega), List.getElem?_append_left (by simp; omega)]
          rw [← hu]; congr 1; simp; omega
      · have hr := run_append_grow (P := P) w t ty e i z ht hi0 hz0 ⟨g, off, none⟩ cs.length cap cs (by rw [hi1, Nat.mul_one]) holds ad m c news (by rw [hl, hi1, Nat.mul_one]) hnews' (by omega) (by omega) (growslice_fits (by omega) (by rw [hi2]; exact hbytes))
        refine ⟨_, _, hr, ?_, Upd.of_below ((below_drewN (Below.refl w.heap.size w) 1).alloc (Nat.le_refl _) _) _, fun k hk => .inr ?_⟩
        · refine .inr ⟨w.heap.size, 0, _, _, by rw [List.length_append, hl], heap_alloc_new w.drew _, ?_, ?_, grownCap_le_maxLen w _ cap e (by unfold maxLen; omega), fun j u hu => ?_⟩
          · rw [List.length_append, hl]; exact grownCap_ge w _ cap e
          · have := grownCap_ge w (cs.length + m) cap e
            simp only [Array.size_append, List.size_toArray, size_zeroCells, hz1, hl]; omega
          · have hlt := (List.getElem?_eq_some_iff.1 hu).1
            rw [Nat.zero_add, Array.getElem?_append_left (by simpa using hlt)]
            simpa using hu
        · have : w.heap.size = k := by simpa [Value.ownBlock] using hk
          omega
end
section
variable {P : Program} {ops : Array Oper} {rest : List Oper} {o : Oper} {a : Act} {w w0 : World} {Q : Exit → Act → World → Prop} {F : Nat → Prop} {L : List Ent}
theorem hs_append (hS : HS F w0 w L) (i : Nat) {e : TypeId} {v : Value} {cs : List Value} (hi : L[i]? = some (.os e v cs)) (hw : Region.wanted o (yielded ops a.tmps) = true) (s x : Operand) (t : TypeId)
    (ho : o.op = .call { callee := .builtin .append, args := #[s, x], argTypes := #[t, t] }) (bytes : Nat) (ht : P.underlying t = some (.slice e)) (hf : (P.info? e).map (fun i => (i.size, i.bytes)) = some (1, bytes)) (hz : (((P.info? e).bind (·.zero)).map (·.cells.size)) = some 1)
    (hs : a.eval s = v) (A : Option Addr) (m c : Nat) (hx : a.eval x = .slice A m c) (news : List Value) (hl : news.length = m) (hnews : ∀ j u, news[j]? = some u → ∃ ad, A = some ad ∧ w.cell? (ad.add j) = some u) (h1 : ∀ u ∈ news, u.oneCell' = true)
    (hbytes : (cs.length + m) * bytes ≤ 140737488355328) (h63 : cs.length + m ≤ 140737488355328) (d : Option Tmp) (hd : o.dst = d)
    (h : ∀ A' n' c' w', (cs ++ news).length = n' → n' ≤ c' → (A' = none → c' = 0) → HS F w0 w' (L.set i (.os e (.slice A' n' c') (cs ++ news))) → wpList P ops Q rest (a.put d (.slice A' n' c')) w') : wpList P ops Q (o :: rest) a w := by
  subst hd
  refine wpList_step fun K hK => ?_
  rw [if_pos hw]
  obtain ⟨v', w', hrun, ho', hu, hb⟩ := run_append_os (P := P) t o.type e bytes ht hf hz v cs (hS.os i hi) A m c news hl hnews h1 hbytes h63
  unfold Oper.wp execOp
  simp only [ho, resolve, invoke, builtin]
  simp [hs, hx, hrun]
  obtain ⟨A', c', rfl, h5, _, h6, _⟩ := ho'.parts
  exact hK _ _ (h A' _ c' w' rfl h5 h6 (hS.upd1 i hi hu _ ho' hb))
end
/-- An empty literal. -/
theorem hs_empty {P : Program} {ops : Array Oper} {rest : List Oper} {o : Oper} {a : Act} {w w0 : World} {Q : Exit → Act → World → Prop} {F : Nat → Prop} {L : List Ent} (hS : HS F w0 w L) (hw : Region.wanted o (yielded ops a.tmps) = true) (t e : TypeId) (ho : o.op = .buildSlice t 0 #[])
    (hu : P.underlying t = some (.slice e)) (hz : ((P.info? e).bind (·.zero)).isSome = true) (d : Option Tmp) (hd : o.dst = d)
    (h : ∀ g w', w.heap.size = g → Below w.heap.size w w' → HS F w0 w' (.os e (.slice (some ⟨g, 0, none⟩) 0 0) [] :: L) → wpList P ops Q rest (a.put d (.slice (some ⟨g, 0, none⟩) 0 0)) w') : wpList P ops Q (o :: rest) a w := by
  subst hd
  have hB : Below w.heap.size w (w.alloc (.cells (#[] : Array Value) e)) := (Below.refl _ _).alloc (Nat.le_refl _) _
  have hb : Blk (w.alloc (.cells (#[] : Array Value) e)) w.heap.size e [] := Blk.new w e []
  have h1 := h w.heap.size _ rfl hB (hS.push hB (.os e (.slice (some ⟨w.heap.size, 0, none⟩) 0 0) []) (OwnS.ofBlk hb (Nat.zero_le _)) (fun k hk => Nat.le_of_eq (by simpa [Ent.os, Value.ownBlock] using hk)))
  cases hie : P.info? e with
  | none => simp [hie] at hz
  | some ie =>
    refine wpList_step fun K hK => ?_
    rw [if_pos hw]
    have hrun : (Instr.buildSlice t 0 #[]).run P w = .ok (.slice (some ⟨w.heap.size, 0, none⟩) 0 0) (w.alloc (.cells (#[] : Array Value) e)) := by
      have e0 : ∀ f : Nat → Value, Array.map f (Array.range 0) = #[] := fun f => Array.eq_empty_of_size_eq_zero (by simp)
      simp [Instr.buildSlice, run_underlying hu, sizeOf, typeInfo, hie, Instr.fill, newRow, e0]
    unfold Oper.wp execOp
    simp [ho, hrun]
    exact hK _ _ h1
/-- A literal of one. -/
theorem hs_one {P : Program} {ops : Array Oper} {rest : List Oper} {o : Oper} {a : Act} {w w0 : World} {Q : Exit → Act → World → Prop} {F : Nat → Prop} {L : List Ent} (hS : HS F w0 w L) (hw : Region.wanted o (yielded ops a.tmps) = true) (t e : TypeId) (x : Operand) (ho : o.op = .buildSlice t 1 #[(0, x)])
    (hu : P.underlying t = some (.slice e)) (hf : (P.info? e).map (·.size) = some 1) (hz : (((P.info? e).bind (·.zero)).map (·.cells.size)) = some 1) (v : Value) (hv : a.eval x = v) (h1 : v.oneCell' = true) (d : Option Tmp) (hd : o.dst = d)
    (h : ∀ g w', w.heap.size = g → Below w.heap.size w w' → HS F w0 w' (.os e (.slice (some ⟨g, 0, none⟩) 1 1) [v] :: L) → wpList P ops Q rest (a.put d (.slice (some ⟨g, 0, none⟩) 1 1)) w') : wpList P ops Q (o :: rest) a w := by
  subst hd
  have hB : Below w.heap.size w (w.alloc (.cells (#[v] : Array Value) e)) := (Below.refl _ _).alloc (Nat.le_refl _) _
  have hb : Blk (w.alloc (.cells (#[v] : Array Value) e)) w.heap.size e [v] := Blk.new w e [v]
  have h2 := h w.heap.size _ rfl hB (hS.push hB (.os e (.slice (some ⟨w.heap.size, 0, none⟩) 1 1) [v]) (OwnS.ofBlk hb (by unfold maxLen; simp)) (fun k hk => Nat.le_of_eq (by simpa [Ent.os, Value.ownBlock] using hk)))
  have hc : v.cells = #[v] := by cases v <;> first | rfl | cases h1
  cases hie : P.info? e with
  | none => simp [hie] at hf
  | some ie =>
    have hsz : ie.size = 1 := by simpa [hie] using hf
    cases hzz : ie.zero with
    | none => simp [hie, hzz] at hz
    | some z =>
      have hz1 : z.cells.size = 1 := by simpa [hie, hzz] using hz
      refine wpList_step fun K hK => ?_
      rw [if_pos hw]
      refine wp_buildSlice t e 1 #[(0, x)] ho #[v] ie z hu hie hzz (by rw [hsz]; decide) (by rw [hsz]; decide) ?_ (hK _ _ h2)
      have e1 : ∀ xs : Array Value, xs.size = 1 → xs.setIfInBounds 0 v = #[v] := fun xs hx => by
        obtain ⟨y, rfl⟩ := Array.size_eq_one_iff.1 hx
        rfl
      simp [hsz, hv, Instr.fill, hc, e1]
theorem news_of_rd {w : World} {A : Option Addr} {k : IntKind} {xs : List Int} (h : Rd w A k xs) : ∀ j u, (ints k xs)[j]? = some u → ∃ ad, A = some ad ∧ w.cell? (ad.add j) = some u := fun j u hu => by
  have hlt := (List.getElem?_eq_some_iff.1 hu).1
  simp at hlt
  rw [ints_get k xs j hlt] at hu
  injection hu with hu
  subst hu
  rcases h with h | ⟨g, o, rfl, h⟩
  · subst h; simp at hlt
  · exact ⟨_, rfl, by rw [add_lit]; exact h j hlt⟩
theorem ints_one' (k : IntKind) (xs : List Int) : ∀ u ∈ ints k xs, u.oneCell' = true := fun u hu => by
  obtain ⟨y, _, rfl⟩ := List.mem_map.1 hu; rfl
/-- A fresh slice beside all that is there. -/
theorem HS.pushOwn {F : Nat → Prop} {w0 w w' : World} {L : List Ent} (h : HS F w0 w L) (hb : Below w.heap.size w w') {e : TypeId} {k : IntKind} {v : Value} {xs : List Int} (ho : Own w' w.heap.size e k v xs) : HS F w0 w' (.os e v (ints k xs) :: L) :=
  h.push hb _ ho.os fun j hj => ho.base_le j hj
theorem Own.partsL {w : World} {b m : Nat} {e : TypeId} {k : IntKind} {v : Value} {xs : List Int} (h : Own w b e k v xs) (hm : xs.length = m) : ∃ A c, v = .slice A m c ∧ m ≤ c ∧ (A = none → c = 0) := by
  subst hm
  obtain ⟨A, c, h1, h2, h3, _⟩ := h.parts
  exact ⟨A, c, h1, h2, h3⟩
end Go.Cour
/- A pace's methods, wherever it lies. -/
namespace Go.Proofs.Ytofpmigifimfoaa
open Go.RowKit Go.Cour
theorem sizeInt : (Try.prog.info? 3).map (·.size) = some 1 := by kernel_rfl
theorem pFail_calls (g o : Nat) (t : TypeId) (cs : List Value) (tr wt : Int) {w : World} (hb : Blk w g t cs) (h0 : cs[o]? = some (.int .i64 tr)) (h1 : cs[o + 1]? = some (.int .i64 wt)) (htr : -1000000000000 ≤ tr ∧ tr ≤ 1000000000000) :
    Calls Try.prog 10 #[.pointer (some ⟨g, o, none⟩)] w fun e w' => e = .returned (.bool (decide (10 < tr + 1))) ∧ Blk w' g t ((cs.set o (.int .i64 (tr + 1))).set (o + 1) (.int .i64 (delayOf (tr + 1)))) ∧ Upd (fun k => k = g) w w' := by
  have hol := (List.getElem?_eq_some_iff.1 h0).1
  have hol1 := (List.getElem?_eq_some_iff.1 h1).1
  have hS := (HS.start (fun k => k = g) w).take (.blk g t cs) hb (fun k hk => .inl hk) (fun f hf => by simp at hf)
  have c0 := (hb.cell o).trans h0
  have ha : IntKind.i64.wrap (tr + 1) = tr + 1 := IntWalk.i64_in _ (by omega)
  have t1 := htr.1
  have t2 := htr.2
  clear hb
  go_enter Try.func10, Try.ntmps10
  go_wp2_with (first
    | (refine hs_store1 hS 0 rfl rfl 3 _ _ rfl o rfl (.int .i64 (tr + 1)) rfl rfl sizeInt hol _ rfl ?_; clear hS c0; intro w1 hS; have c0 := (hS.cell 0 rfl o).trans (List.getElem?_set_self hol))
    | fail)
  refine (delay_calls _ _).mono ?_
  rintro e w2 ⟨rfl, rfl⟩
  go_wp2_with (first
    | (refine hs_store1 hS 0 rfl rfl 3 _ _ rfl (o + 1) rfl (.int .i64 (delayOf (tr + 1))) rfl rfl sizeInt (by rw [List.length_set]; exact hol1) _ rfl ?_; clear hS c0; intro w3 hS; have c0 := (hS.cell 0 rfl o).trans ((List.getElem?_set_ne (by omega)).trans (List.getElem?_set_self hol)))
    | fail)
  go_ret
  exact ⟨rfl, hS.blk 0 rfl, hS.upd⟩
theorem pTick_calls (g o : Nat) (t : TypeId) (cs : List Value) (wt : Int) {w : World} (hb : Blk w g t cs) (h1 : cs[o + 1]? = some (.int .i64 wt)) (hwt : -1000000000000 ≤ wt ∧ wt ≤ 1000000000000) :
    Calls Try.prog 13 #[.pointer (some ⟨g, o, none⟩)] w fun e w' => e = .returned (.tuple #[]) ∧ Blk w' g t (cs.set (o + 1) (.int .i64 (if 0 < wt then wt - 1 else wt))) ∧ Upd (fun k => k = g) w w' := by
  have hol1 := (List.getElem?_eq_some_iff.1 h1).1
  have hS := (HS.start (fun k => k = g) w).take (.blk g t cs) hb (fun k hk => .inl hk) (fun f hf => by simp at hf)
  have c1 := (hb.cell (o + 1)).trans h1
  have t1 := hwt.1
  have t2 := hwt.2
  clear hb
  by_cases hw0 : 0 < wt
  · rw [if_pos hw0]
    have ha : IntKind.i64.wrap (wt - 1) = wt - 1 := IntWalk.i64_in _ (by omega)
    go_enter Try.func13, Try.ntmps13
    go_wp2_with (first
      | (refine hs_store1 hS 0 rfl rfl 3 _ _ rfl (o + 1) rfl (.int .i64 (wt - 1)) rfl rfl sizeInt hol1 _ rfl ?_; clear hS c1; intro w1 hS)
      | fail)
    go_end0
    exact ⟨rfl, hS.blk 0 rfl, hS.upd⟩
  · rw [if_neg hw0]
    have hset : cs.set (o + 1) (.int .i64 wt) = cs := by
      apply List.ext_getElem?
      intro j
      by_cases hj : o + 1 = j
      · subst hj; rw [List.getElem?_set_self hol1, h1]
      · rw [List.getElem?_set_ne hj]
    rw [hset]
    go_enter Try.func13, Try.ntmps13
    go_wp2_with fail
    go_end0
    exact ⟨rfl, hS.blk 0 rfl, hS.upd⟩
theorem rFail_calls (g o : Nat) (t : TypeId) (cs : List Value) (tr wt : Int) {w : World} (hb : Blk w g t cs) (h0 : cs[o]? = some (.int .i64 tr)) (h1 : cs[o + 1]? = some (.int .i64 wt)) (htr : -1000000000000 ≤ tr ∧ tr ≤ 1000000000000) :
    Calls Try.prog 11 #[.pointer (some ⟨g, o, none⟩)] w fun e w' => e = .returned (.bool (decide (10 < tr + 1))) ∧ Blk w' g t ((cs.set o (.int .i64 (tr + 1))).set (o + 1) (.int .i64 (delayOf (tr + 1)))) ∧ Upd (fun k => k = g) w w' := by
  have hol := (List.getElem?_eq_some_iff.1 h0).1
  have hol1 := (List.getElem?_eq_some_iff.1 h1).1
  have hS := (HS.start (fun k => k = g) w).take (.blk g t cs) hb (fun k hk => .inl hk) (fun f hf => by simp at hf)
  have c0 := (hb.cell o).trans h0
  have ha : IntKind.i64.wrap (tr + 1) = tr + 1 := IntWalk.i64_in _ (by omega)
  have t1 := htr.1
  have t2 := htr.2
  clear hb
  go_enter Try.func11, Try.ntmps11
  go_wp2_with (first
    | (refine hs_store1 hS 0 rfl rfl 3 _ _ rfl o rfl (.int .i64 (tr + 1)) rfl rfl sizeInt hol _ rfl ?_; clear hS c0; intro w1 hS; have c0 := (hS.cell 0 rfl o).trans (List.getElem?_set_self hol))
    | fail)
  refine (delay16_calls _ _).mono ?_
  rintro e w2 ⟨rfl, rfl⟩
  go_wp2_with (first
    | (refine hs_store1 hS 0 rfl rfl 3 _ _ rfl (o + 1) rfl (.int .i64 (delayOf (tr + 1))) rfl rfl sizeInt (by rw [List.length_set]; exact hol1) _ rfl ?_; clear hS c0; intro w3 hS; have c0 := (hS.cell 0 rfl o).trans ((List.getElem?_set_ne (by omega)).trans (List.getElem?_set_self hol)))
    | fail)
  go_ret
  exact ⟨rfl, hS.blk 0 rfl, hS.upd⟩
theorem rTick_calls (g o : Nat) (t : TypeId) (cs : List Value) (wt : Int) {w : World} (hb : Blk w g t cs) (h1 : cs[o + 1]? = some (.int .i64 wt)) (hwt : -1000000000000 ≤ wt ∧ wt ≤ 1000000000000) :
    Calls Try.prog 14 #[.pointer (some ⟨g, o, none⟩)] w fun e w' => e = .returned (.tuple #[]) ∧ Blk w' g t (cs.set (o + 1) (.int .i64 (if 0 < wt then wt - 1 else wt))) ∧ Upd (fun k => k = g) w w' := by
  have hol1 := (List.getElem?_eq_some_iff.1 h1).1
  have hS := (HS.start (fun k => k = g) w).take (.blk g t cs) hb (fun k hk => .inl hk) (fun f hf => by simp at hf)
  have c1 := (hb.cell (o + 1)).trans h1
  have t1 := hwt.1
  have t2 := hwt.2
  clear hb
  by_cases hw0 : 0 < wt
  · rw [if_pos hw0]
    have ha : IntKind.i64.wrap (wt - 1) = wt - 1 := IntWalk.i64_in _ (by omega)
    go_enter Try.func14, Try.ntmps14
    go_wp2_with (first
      | (refine hs_store1 hS 0 rfl rfl 3 _ _ rfl (o + 1) rfl (.int .i64 (wt - 1)) rfl rfl sizeInt hol1 _ rfl ?_; clear hS c1; intro w1 hS)
      | fail)
    go_end0
    exact ⟨rfl, hS.blk 0 rfl, hS.upd⟩
  · rw [if_neg hw0]
    have hset : cs.set (o + 1) (.int .i64 wt) = cs := by
      apply List.ext_getElem?
      intro j
      by_cases hj : o + 1 = j
      · subst hj; rw [List.getElem?_set_self hol1, h1]
      · rw [List.getElem?_set_ne hj]
    rw [hset]
    go_enter Try.func14, Try.ntmps14
    go_wp2_with fail
    go_end0
    exact ⟨rfl, hS.blk 0 rfl, hS.upd⟩
theorem pReady_calls (g o : Nat) (t : TypeId) (cs : List Value) (wt : Int) {w : World} (hb : Blk w g t cs) (h1 : cs[o + 1]? = some (.int .i64 wt)) :
    Calls Try.prog 15 #[.pointer (some ⟨g, o, none⟩)] w fun e w' => e = .returned (.bool (wt == 0)) ∧ w' = w := by
  have c1 := (hb.cell (o + 1)).trans h1
  go_enter Try.func15, Try.ntmps15
  go_wp2_with fail
  go_ret
  exact ⟨rfl, rfl⟩
theorem infoPace : (Try.prog.info? 27).map (·.size) = some 2 := by kernel_rfl
theorem zeroPaceT : Try.prog.built 27 [] = some (ints .i64 [0, 0]).toArray := by kernel_rfl
theorem pGood_calls (g o : Nat) (t : TypeId) (cs : List Value) {w : World} (hb : Blk w g t cs) (hl : o + 2 ≤ cs.length) :
    Calls Try.prog 12 #[.pointer (some ⟨g, o, none⟩)] w fun e w' => e = .returned (.tuple #[]) ∧ Blk w' g t (cs.take o ++ (ints .i64 [0, 0] ++ cs.drop (o + 2))) ∧ Upd (fun k => k = g) w w' := by
  have hS := (HS.start (fun k => k = g) w).take (.blk g t cs) hb (fun k hk => .inl hk) (fun f hf => by simp at hf)
  clear hb
  go_enter Try.func12, Try.ntmps12
  go_wp2_with (first
    | (refine build_to rfl 27 _ rfl (ints .i64 [0, 0]).toArray (by rw [Array.toList_map]; exact zeroPaceT) ?_)
    | (refine hs_storeN hS 0 rfl rfl 27 _ _ rfl o rfl (ints .i64 [0, 0]) rfl (ints_one' _ _) 2 infoPace rfl hl _ rfl ?_; clear hS; intro w1 hS)
    | fail)
  go_end0
  exact ⟨rfl, by rw [← List.append_assoc]; exact hS.blk 0 rfl, hS.upd⟩
end Go.Proofs.Ytofpmigifimfoaa
/- A pace as one thing of memory; the chapter's examples. -/
namespace Go.Cour
theorem HS.blkCall {F : Nat → Prop} {w0 w w' : World} {L : List Ent} (h : HS F w0 w L) (i : Nat) {g : Nat} {t : TypeId} {cs cs' : List Value} (hi : L[i]? = some (.blk g t cs)) (hb : Blk w' g t cs') (hu : Upd (fun k => k = g) w w') : HS F w0 w' (L.set i (.blk g t cs')) :=
  h.upd1 i hi (hu.mono fun _ _ hk => hk) _ hb fun k hk => .inl hk
end Go.Cour
namespace Go.Proofs.Ytofpmigifimfoaa
open Go.RowKit Go.Cour
def paceC (tr wt : Int) : List Value := ints .i64 [tr, wt]
section
variable {F : Nat → Prop} {w0 w : World} {L : List Ent}
theorem pFailH (g : Nat) (tr wt : Int) (i : Nat) (hS : HS F w0 w L) (hi : L[i]? = some (.blk g 27 (paceC tr wt))) (htr : -1000000000000 ≤ tr ∧ tr ≤ 1000000000000) :
    Calls Try.prog 10 #[.pointer (some ⟨g, 0, none⟩)] w fun e w' => e = .returned (.bool (decide (10 < tr + 1))) ∧ HS F w0 w' (L.set i (.blk g 27 (paceC (tr + 1) (delayOf (tr + 1))))) :=
  (pFail_calls g 0 _ _ tr wt (hS.blk i hi) rfl rfl htr).mono fun e w' ⟨he, hb, hu⟩ => ⟨he, hS.blkCall i hi hb hu⟩
theorem pTickH (g : Nat) (tr wt : Int) (i : Nat) (hS : HS F w0 w L) (hi : L[i]? = some (.blk g 27 (paceC tr wt))) (hwt : -1000000000000 ≤ wt ∧ wt ≤ 1000000000000) :
    Calls Try.prog 13 #[.pointer (some ⟨g, 0, none⟩)] w fun e w' => e = .returned (.tuple #[]) ∧ HS F w0 w' (L.set i (.blk g 27 (paceC tr (if 0 < wt then wt - 1 else wt)))) :=
  (pTick_calls g 0 _ _ wt (hS.blk i hi) rfl hwt).mono fun e w' ⟨he, hb, hu⟩ => ⟨he, hS.blkCall i hi hb hu⟩
theorem pReadyH (g : Nat) (tr wt : Int) (i : Nat) (hS : HS F w0 w L) (hi : L[i]? = some (.blk g 27 (paceC tr wt))) :
    Calls Try.prog 15 #[.pointer (some ⟨g, 0, none⟩)] w fun e w' => e = .returned (.bool (wt == 0)) ∧ w' = w :=
  pReady_calls g 0 _ _ wt (hS.blk i hi) rfl
theorem pGoodH (g : Nat) (tr wt : Int) (i : Nat) (hS : HS F w0 w L) (hi : L[i]? = some (.blk g 27 (paceC tr wt))) :
    Calls Try.prog 12 #[.pointer (some ⟨g, 0, none⟩)] w fun e w' => e = .returned (.tuple #[]) ∧ HS F w0 w' (L.set i (.blk g 27 (paceC 0 0))) :=
  (pGood_calls g 0 _ _ (hS.blk i hi) (by simp [paceC])).mono fun e w' ⟨he, hb, hu⟩ => ⟨he, hS.blkCall i hi hb hu⟩
theorem rFailH (g : Nat) (tr wt : Int) (i : Nat) (hS : HS F w0 w L) (hi : L[i]? = some (.blk g 29 (paceC tr wt))) (htr : -1000000000000 ≤ tr ∧ tr ≤ 1000000000000) :
    Calls Try.prog 11 #[.pointer (some ⟨g, 0, none⟩)] w fun e w' => e = .returned (.bool (decide (10 < tr + 1))) ∧ HS F w0 w' (L.set i (.blk g 29 (paceC (tr + 1) (delayOf (tr + 1))))) :=
  (rFail_calls g 0 _ _ tr wt (hS.blk i hi) rfl rfl htr).mono fun e w' ⟨he, hb, hu⟩ => ⟨he, hS.blkCall i hi hb hu⟩
theorem rTickH (g : Nat) (tr wt : Int) (i : Nat) (hS : HS F w0 w L) (hi : L[i]? = some (.blk g 29 (paceC tr wt))) (hwt : -1000000000000 ≤ wt ∧ wt ≤ 1000000000000) :
    Calls Try.prog 14 #[.pointer (some ⟨g, 0, none⟩)] w fun e w' => e = .returned (.tuple #[]) ∧ HS F w0 w' (L.set i (.blk g 29 (paceC tr (if 0 < wt then wt - 1 else wt)))) :=
  (rTick_calls g 0 _ _ wt (hS.blk i hi) rfl hwt).mono fun e w' ⟨he, hb, hu⟩ => ⟨he, hS.blkCall i hi hb hu⟩
end
theorem zeroPaceC : ((Try.prog.info? 27).bind (·.zero)).map (·.cells) = some (paceC 0 0).toArray := by kernel_rfl
theorem rate_calls (a b : Int) (r : Nat) (w : World) (h : floatBits .quo .f64 (floatOfInt .f64 a) (floatOfInt .f64 b) = some r) : Calls Try.prog 27 #[.int .i64 a, .int .i64 b] w fun e w' => e = .returned (.float .f64 r) ∧ w' = w := by
  have hq := fun w => run_float_arith (P := Try.prog) w .quo 35 .f64 _ _ r h
  go_enter Try.func27, Try.ntmps27
  go_wp2_with fail
  go_ret
  exact ⟨rfl, rfl⟩
theorem progress_calls (a b : Int) (r : Nat) (w : World) (h : floatBits .quo .f64 (floatOfInt .f64 a) (floatOfInt .f64 b) = some r) : Calls Try.prog 20 #[.int .i64 a, .int .i64 b] w fun e w' => e = .returned (.float .f64 r) ∧ w' = w := by
  go_enter Try.func20, Try.ntmps20
  go_wp2_with fail
  refine (rate_calls a b r _ h).mono ?_
  rintro e w1 ⟨rfl, rfl⟩
  go_wp2_with fail
  go_ret
  exact ⟨rfl, rfl⟩
theorem first23_calls (w : World) : Calls Try.prog 8 #[] w fun e w' => e = .returned (.bool true) ∧ Below w.heap.size w w' := by
  have hS := HS.start NoF w
  have d0 : delayOf 0 = 1 := by decide
  have d2 : delayOf 2 = 2 := by decide
  have d1 : delayOf (0 + 1) = 1 := by decide
  have hh : FloatKind.f64.format.order 4602678819172646912 4602678819172646912 = some .eq := by kernel_rfl
  go_enter Try.func8, Try.ntmps8
  go_wp2_with (first
    | (refine alloc_blk rfl 27 rfl _ rfl (paceC 0 0) zeroPaceC ?_; intro g w3 hga hba hBa hsa; replace hS := hS.pushBlk hBa hba hga; clear hga hba hBa hsa)
    | (go_at_call 17; refine (delay_calls _ _).mono ?_; rintro e w1 ⟨rfl, rfl⟩)
    | (go_at_call 15; refine (pReadyH g 0 0 0 hS rfl).mono ?_; rintro e w1 ⟨rfl, rfl⟩)
    | (go_at_call 10; refine (pFailH g 0 0 0 hS rfl (by omega)).mono ?_; rintro e w4 ⟨rfl, hSn⟩; clear hS; have hS := hSn; clear hSn; rw [d1] at hS; have c1 : w4.cell? ⟨g, 1, none⟩ = some (.int .i64 1) := hS.cell 0 rfl 1)
    | (go_at_call 20; refine (progress_calls 1 2 4602678819172646912 _ (by kernel_rfl)).mono ?_; rintro e w1 ⟨rfl, rfl⟩)
    | fail)
  go_ret
  exact ⟨rfl, hS.bel⟩
end Go.Proofs.Ytofpmigifimfoaa
/- Floats as dyadic numbers: whole numbers are written and read back; a number cut to a whole one. -/
namespace Go.Cour
open Ieee
theorem dbl_frac : double.fractionBits = 52 := rfl
theorem dbl_least : double.leastPlace = -1074 := by decide
theorem dbl_binade : double.binade = 4503599627370496 := by decide
theorem dbl_inf : double.infRung = 9218868437227405312 := by decide
theorem dbl_sign : double.signWeight = 9223372036854775808 := by decide
theorem cut_whole (way : Toward) (n : Nat) : way.cut false n 0 = n := by
  unfold Toward.cut
  simp only [Nat.zero_min, Nat.shiftLeft_zero, Nat.div_one, Nat.mod_one]
  cases way <;> simp
theorem two_pos (d : Nat) : 0 < 2 ^ d := Nat.pow_pos (by decide)
theorem lt_log (n : Nat) : n < 2 ^ (n.log2 + 1) := Nat.lt_log2_self
theorem cut_gap (n d : Nat) : n / (1 <<< min d (n.log2 + 2)) = n / 2 ^ d ∧ n % (1 <<< min d (n.log2 + 2)) = n % 2 ^ d := by
  rw [Nat.one_shiftLeft]
  by_cases h : d ≤ n.log2 + 2
  · rw [Nat.min_eq_left h]; exact ⟨rfl, rfl⟩
  · rw [Nat.min_eq_right (by omega)]
    have h1 := lt_log n
    have h2 : 2 ^ (n.log2 + 1) ≤ 2 ^ (n.log2 + 2) := Nat.pow_le_pow_right (by decide) (by omega)
    have h3 : 2 ^ (n.log2 + 1) ≤ 2 ^ d := Nat.pow_le_pow_right (by decide) (by omega)
    rw [Nat.div_eq_of_lt (by omega), Nat.div_eq_of_lt (by omega), Nat.mod_eq_of_lt (by omega), Nat.mod_eq_of_lt (by omega)]
    exact ⟨rfl, rfl⟩
theorem cut_zero (n d : Nat) : Toward.zero.cut false n d = n / 2 ^ d := by
  unfold Toward.cut
  simp only [(cut_gap n d).1]
  simp
theorem cut_up (n d : Nat) : Toward.up.cut false n d = n / 2 ^ d + (if n % 2 ^ d = 0 then 0 else 1) := by
  unfold Toward.cut
  simp only [(cut_gap n d).1, (cut_gap n d).2]
  by_cases h : n % 2 ^ d = 0
  · simp [h]
  · have h2 : (n % 2 ^ d != 0) = true := by simpa using h
    simp [h, h2]
theorem cut_even (k d : Nat) (hk : 0 < k) : Toward.even.cut false (k * 2 ^ d) d = k := by
  have hp := two_pos d
  have hd : d ≤ (k * 2 ^ d).log2 + 2 := by
    have h1 : 2 ^ d ≤ k * 2 ^ d := Nat.le_mul_of_pos_left _ hk
    have h2 := (Nat.le_log2 (by have := Nat.mul_pos hk hp; omega)).2 h1
    omega
  unfold Toward.cut
  simp only [(cut_gap (k * 2 ^ d) d).1, (cut_gap (k * 2 ^ d) d).2, Nat.mul_mod_left, Nat.mul_div_cancel k hp]
  rw [Nat.min_eq_left hd, Nat.one_shiftLeft]
  have h3 : (2 ^ d == 2 * 0) = false := by rw [beq_eq_false_iff_ne]; omega
  simp [h3]
/-- A word of the normal numbers, read. -/
theorem read_word (K e : Nat) (h1 : 4503599627370496 ≤ K) (h2 : K < 9007199254740992) (he : e ≤ 2045) : double.read (e * 4503599627370496 + K) = .number false K (-1074 + e) := by
  have hr : (e * 4503599627370496 + K) < 9223372036854775808 := by omega
  unfold Format.read
  simp only [dbl_sign, dbl_binade, dbl_inf, dbl_least]
  rw [Nat.mod_eq_of_lt hr, Nat.div_eq_of_lt hr]
  rw [if_neg (by omega), if_pos (by omega)]
  have h3 : (e * 4503599627370496 + K) % 4503599627370496 = K - 4503599627370496 := by omega
  have h4 : (e * 4503599627370496 + K) / 4503599627370496 = e + 1 := by omega
  rw [h3, h4]
  have h5 : 4503599627370496 + (K - 4503599627370496) = K := by omega
  rw [h5]
  rfl
/-- A whole number, written and read. -/
theorem nearest_int (C : Nat) (h0 : 0 < C) (h1 : C < 2 ^ 62) (h2 : C < 2 ^ 53 ∨ 2 ^ (C.log2 - 52) ∣ C) :
    ∃ (K : Nat) (last : Int), 4503599627370496 ≤ K ∧ K < 9007199254740992 ∧ -52 ≤ last ∧ last ≤ 9 ∧ double.read (double.nearest false C 0) = .number false K last ∧
      ((last ≤ 0 ∧ K = C * 2 ^ (-last).toNat) ∨ (0 < last ∧ C = K * 2 ^ last.toNat)) := by
  obtain ⟨l, hl⟩ : ∃ l, C.log2 = l := ⟨_, rfl⟩
  have a1 : 2 ^ l ≤ C := by rw [← hl]; exact Nat.log2_self_le (by omega)
  have a2 : C < 2 ^ (l + 1) := by rw [← hl]; exact lt_log C
  have a3 : l ≤ 61 := by
    rcases Nat.lt_or_ge l 62 with h | h
    · omega
    · have := Nat.pow_le_pow_right (n := 2) (by decide) h
      omega
  rw [hl] at h2
  have near : ∀ (K : Nat) (last : Int), max ((0 : Int) + (l : Int) - 52) (-1074) = last → Toward.even.cut false (C <<< ((0 : Int) - last).toNat) (last - 0).toNat = K → K < 9007199254740992 → last ≤ 9 →
      double.nearest false C 0 = (last + 1074).toNat * 4503599627370496 + K := fun K last e1 e2 e3 e4 => by
    unfold Format.nearest
    rw [if_neg (by omega)]
    simp only [dbl_frac, dbl_least, dbl_binade, dbl_inf, hl]
    have e5 : max ((0 : Int) + (l : Int) - ((52 : Nat) : Int)) (-1074) = last := e1
    rw [e5, e2]
    rw [show (last - -1074) = last + 1074 by omega]
    unfold Format.word
    rw [if_neg (by decide), Nat.min_eq_left (by omega)]
  by_cases hc : l ≤ 52
  · obtain ⟨s, hs⟩ : ∃ s, l + s = 52 := ⟨52 - l, by omega⟩
    have b1 : 2 ^ l * 2 ^ s = 4503599627370496 := by rw [← Nat.pow_add, hs]
    have b2 : 2 ^ (l + 1) * 2 ^ s = 9007199254740992 := by rw [← Nat.pow_add, show l + 1 + s = 53 by omega]
    have k1 : 4503599627370496 ≤ C * 2 ^ s := by rw [← b1]; exact Nat.mul_le_mul_right _ a1
    have k2 : C * 2 ^ s < 9007199254740992 := by rw [← b2]; exact Nat.mul_lt_mul_of_pos_right a2 (two_pos s)
    have hn := near (C * 2 ^ s) ((l : Int) - 52) (by omega) (by
      rw [show ((0 : Int) - ((l : Int) - 52)).toNat = s by omega, show ((l : Int) - 52 - 0).toNat = 0 by omega, cut_whole, Nat.shiftLeft_eq]) k2 (by omega)
    refine ⟨C * 2 ^ s, (l : Int) - 52, k1, k2, by omega, by omega, ?_, .inl ⟨by omega, by rw [show (-((l : Int) - 52)).toNat = s by omega]⟩⟩
    rw [hn, read_word _ _ k1 k2 (by omega)]
    congr 1
    omega
  · have hdv : 2 ^ (l - 52) ∣ C := by
      rcases h2 with h2 | h2
      · have := Nat.pow_le_pow_right (n := 2) (by decide) (show 53 ≤ l by omega)
        omega
      · exact h2
    obtain ⟨K, hK⟩ := hdv
    obtain ⟨s, hs⟩ : ∃ s, l = 52 + s := ⟨l - 52, by omega⟩
    rw [show l - 52 = s by omega, Nat.mul_comm] at hK
    have b1 : 2 ^ l = 4503599627370496 * 2 ^ s := by rw [hs, Nat.pow_add]
    have b2 : 2 ^ (l + 1) = 9007199254740992 * 2 ^ s := by rw [show l + 1 = 53 + s by omega, Nat.pow_add]
    have k1 : 4503599627370496 ≤ K := Nat.le_of_mul_le_mul_right (by rw [← b1, ← hK]; exact a1) (two_pos s)
    have k2 : K < 9007199254740992 := Nat.lt_of_mul_lt_mul_right (a := 2 ^ s) (by rw [← b2, ← hK]; exact a2)
    have hn := near K ((l : Int) - 52) (by omega) (by
      rw [show ((0 : Int) - ((l : Int) - 52)).toNat = 0 by omega, show ((l : Int) - 52 - 0).toNat = s by omega, Nat.shiftLeft_zero, hK, cut_even K s (by omega)]) k2 (by omega)
    refine ⟨K, (l : Int) - 52, k1, k2, by omega, by omega, ?_, .inr ⟨by omega, by rw [show ((l : Int) - 52).toNat = s by omega]; exact hK⟩⟩
    rw [hn, read_word _ _ k1 k2 (by omega)]
    congr 1
    omega
theorem integral_number (way : Toward) (s : Bool) (m : Nat) (i : Int) : (Datum.number s m i).integral way = .number s (way.cut s (m <<< i.toNat) (-i).toNat) 0 := rfl
theorem toInt_number (m : Nat) (i : Int) : (Datum.number false m i).toInt .zero = some ((Toward.zero.cut false (m <<< i.toNat) (-i).toNat : Nat) : Int) := by
  unfold Datum.toInt
  rw [integral_number]
  simp [signed]
/-- The unit's place. -/
@[irreducible] def uni : Nat := 2 ^ 1100
theorem uni_eq : uni = 2 ^ 1100 := by unfold uni; rfl
theorem uni_pow {d z : Nat} (h : d + z = 1100) : uni = 2 ^ d * 2 ^ z := by rw [uni_eq, ← Nat.pow_add, h]
/-- A number's worth, in units of 2 ^ -1100. -/
def val (m : Nat) (i : Int) : Nat := m * 2 ^ (i + 1100).toNat
theorem cmp_int (a b : Int) : compare a b = if a < b then .lt else if a = b then .eq else .gt := rfl
theorem order_val (a b : Nat) (p q : Int) (hp : -1100 ≤ p) (hq : -1100 ≤ q) : Datum.order (.number false a p) (.number false b q) = some (if val a p < val b q then .lt else if val a p = val b q then .eq else .gt) := by
  have key : ∀ base : Int, base ≤ p → base ≤ q → -1100 ≤ base → compare (signed false a (p - base).toNat) (signed false b (q - base).toNat) = (if val a p < val b q then .lt else if val a p = val b q then .eq else .gt) := fun base h1 h2 h3 => by
    obtain ⟨x, hx⟩ : ∃ x, (p - base).toNat = x := ⟨_, rfl⟩
    obtain ⟨y, hy⟩ : ∃ y, (q - base).toNat = y := ⟨_, rfl⟩
    obtain ⟨z, hz⟩ : ∃ z, (base + 1100).toNat = z := ⟨_, rfl⟩
    have e1 : val a p = a * 2 ^ x * 2 ^ z := by unfold val; rw [show (p + 1100).toNat = x + z by omega, Nat.pow_add, Nat.mul_assoc]
    have e2 : val b q = b * 2 ^ y * 2 ^ z := by unfold val; rw [show (q + 1100).toNat = y + z by omega, Nat.pow_add, Nat.mul_assoc]
    rw [hx, hy, cmp_int, e1, e2]
    unfold signed
    simp only [Bool.false_eq_true, if_false, Nat.shiftLeft_eq]
    generalize a * 2 ^ x = u
    generalize b * 2 ^ y = v
    have hz0 := two_pos z
    by_cases h4 : u < v
    · rw [if_pos (by omega), if_pos (Nat.mul_lt_mul_of_pos_right h4 hz0)]
    · by_cases h5 : u = v
      · subst h5; simp
      · have h6 : v < u := by omega
        have h7 := Nat.mul_lt_mul_of_pos_right h6 hz0
        rw [if_neg (by omega), if_neg (by omega), if_neg (by omega), if_neg (by omega)]
  unfold Datum.order
  simp only []
  rw [key (min p q) (Int.min_le_left _ _) (Int.min_le_right _ _) (by omega)]
/-- What a float's word can stand for. -/
theorem read_mag {x : Nat} {s : Bool} {m : Nat} {i : Int} (h : double.read x = .number s m i) : m < 9007199254740992 ∧ -1074 ≤ i ∧ i ≤ 971 := by
  unfold Format.read at h
  simp only [dbl_sign, dbl_binade, dbl_inf, dbl_least] at h
  generalize x % 9223372036854775808 = r at h
  split at h
  · injection h with h1 h2 h3; omega
  · split at h
    · injection h with h1 h2 h3; omega
    · split at h <;> cases h
/-- Cut down, and up. -/
def truncN (m : Nat) (i : Int) : Nat := if 0 ≤ i then m * 2 ^ i.toNat else m / 2 ^ (-i).toNat
def leftN (m : Nat) (i : Int) : Nat := if 0 ≤ i then 0 else m % 2 ^ (-i).toNat
def ceilN (m : Nat) (i : Int) : Nat := truncN m i + (if leftN m i = 0 then 0 else 1)
theorem cut_trunc (m : Nat) (i : Int) : Toward.zero.cut false (m <<< i.toNat) (-i).toNat = truncN m i := by
  unfold truncN
  by_cases h : 0 ≤ i
  · rw [if_pos h, show (-i).toNat = 0 by omega, cut_whole, Nat.shiftLeft_eq]
  · rw [if_neg h, show i.toNat = 0 by omega, Nat.shiftLeft_zero, cut_zero]
theorem cut_ceil (m : Nat) (i : Int) : Toward.up.cut false (m <<< i.toNat) (-i).toNat = ceilN m i := by
  unfold ceilN truncN leftN
  by_cases h : 0 ≤ i
  · rw [if_pos h, if_pos h, show (-i).toNat = 0 by omega, cut_whole, Nat.shiftLeft_eq]; simp
  · rw [if_neg h, if_neg h, show i.toNat = 0 by omega, Nat.shiftLeft_zero, cut_up]
theorem val_trunc (m : Nat) (i : Int) (hi : -1100 ≤ i) : val m i = truncN m i * uni + (if 0 ≤ i then 0 else leftN m i * 2 ^ (i + 1100).toNat) := by
  unfold val truncN leftN
  by_cases h : 0 ≤ i
  · rw [if_pos h, if_pos h, show (i + 1100).toNat = i.toNat + 1100 by omega, Nat.pow_add, ← Nat.mul_assoc, ← uni_eq, Nat.add_zero]
  · rw [if_neg h, if_neg h, if_neg h]
    obtain ⟨d, hd⟩ : ∃ d, (-i).toNat = d := ⟨_, rfl⟩
    obtain ⟨z, hz⟩ : ∃ z, (i + 1100).toNat = z := ⟨_, rfl⟩
    rw [hd, hz, uni_pow (show d + z = 1100 by omega), ← Nat.mul_assoc, ← Nat.add_mul]
    congr 1
    have := Nat.div_add_mod m (2 ^ d)
    rw [Nat.mul_comm] at this
    exact this.symm
theorem trunc_small {m : Nat} {i : Int} (hm : m < 9007199254740992) (hi : i < 0) : truncN m i < 4503599627370496 := by
  unfold truncN
  rw [if_neg (by omega)]
  obtain ⟨d, hd⟩ : ∃ d, (-i).toNat = d + 1 := ⟨(-i).toNat - 1, by omega⟩
  rw [hd, Nat.pow_succ, ← Nat.div_div_eq_div_mul]
  have := Nat.div_le_self m (2 ^ d)
  rw [Nat.div_lt_iff_lt_mul (by decide)]
  omega
theorem whole_div {m : Nat} {i : Int} (h0 : 0 < m) (hm : m < 9007199254740992) (hi : 0 ≤ i) : 2 ^ ((m * 2 ^ i.toNat).log2 - 52) ∣ m * 2 ^ i.toNat := by
  have h1 : (m * 2 ^ i.toNat).log2 < 53 + i.toNat := by
    rw [Nat.log2_lt (by have := Nat.mul_pos h0 (two_pos i.toNat); omega), Nat.pow_add]
    exact Nat.mul_lt_mul_of_pos_right hm (two_pos _)
  exact Nat.dvd_trans (Nat.pow_dvd_pow 2 (by omega)) (Nat.dvd_mul_left _ _)
theorem whole_ok {m : Nat} {i : Int} (h0 : 0 < m) (hm : m < 9007199254740992) (hlt : 0 ≤ i → m * 2 ^ i.toNat < 2 ^ 62) : truncN m i < 2 ^ 62 ∧ (truncN m i < 2 ^ 53 ∨ 2 ^ ((truncN m i).log2 - 52) ∣ truncN m i) ∧ ceilN m i < 2 ^ 62 ∧ 0 < ceilN m i ∧ (ceilN m i < 2 ^ 53 ∨ 2 ^ ((ceilN m i).log2 - 52) ∣ ceilN m i) := by
  by_cases hi : 0 ≤ i
  · have e1 : truncN m i = m * 2 ^ i.toNat := if_pos hi
    have e2 : ceilN m i = m * 2 ^ i.toNat := by unfold ceilN leftN; rw [e1, if_pos hi]; rfl
    rw [e1, e2]
    have := hlt hi
    exact ⟨this, .inr (whole_div h0 hm hi), this, Nat.mul_pos h0 (two_pos _), .inr (whole_div h0 hm hi)⟩
  · have h1 := trunc_small hm (show i < 0 by omega)
    have h2 : ceilN m i ≤ truncN m i + 1 := by unfold ceilN; split <;> omega
    have h3 : 0 < ceilN m i := by
      unfold ceilN
      by_cases h4 : truncN m i = 0
      · have h5 : leftN m i ≠ 0 := by
          unfold leftN truncN at *
          rw [if_neg hi] at h4 ⊢
          have := Nat.div_add_mod m (2 ^ (-i).toNat)
          rw [h4, Nat.mul_zero] at this
          omega
        rw [if_neg h5]; omega
      · omega
    exact ⟨by omega, .inl (by omega), by omega, h3, .inl (by omega)⟩
theorem i64_bounds : IntKind.i64.min = -9223372036854775808 ∧ IntKind.i64.max = 9223372036854775807 := by decide
/-- A number that was written from a whole one, cut. -/
theorem toInt_whole {K C : Nat} {last : Int} (h : (last ≤ 0 ∧ K = C * 2 ^ (-last).toNat) ∨ (0 < last ∧ C = K * 2 ^ last.toNat)) : (Datum.number false K last).toInt .zero = some (C : Int) := by
  rw [toInt_number, cut_trunc]
  have e : truncN K last = C := by
    unfold truncN
    rcases h with ⟨h1, h2⟩ | ⟨h1, h2⟩
    · by_cases h3 : 0 ≤ last
      · have : last = 0 := by omega
        subst this
        rw [if_pos h3]
        simpa using h2
      · rw [if_neg h3, h2, Nat.mul_div_cancel _ (two_pos _)]
    · rw [if_pos (by omega), ← h2]
  rw [e]
theorem val_whole {K C : Nat} {last : Int} (hl : -52 ≤ last) (h : (last ≤ 0 ∧ K = C * 2 ^ (-last).toNat) ∨ (0 < last ∧ C = K * 2 ^ last.toNat)) : val K last = C * uni := by
  unfold val
  rcases h with ⟨h1, h2⟩ | ⟨h1, h2⟩
  · rw [h2, Nat.mul_assoc, ← uni_pow (show (-last).toNat + (last + 1100).toNat = 1100 by omega)]
  · rw [h2, Nat.mul_assoc, show (last + 1100).toNat = last.toNat + 1100 by omega, Nat.pow_add, ← uni_eq]
/-- A number up to a whole one, as an integer. -/
theorem ceil_val {x m : Nat} {i : Int} (hx : FloatKind.f64.decode x = .number false m i) (h0 : 0 < m) (hlt : 0 ≤ i → m * 2 ^ i.toNat < 2 ^ 62) : floatToIntVal .f64 (FloatKind.f64.encode ((FloatKind.f64.decode x).integral .up)) .i64 = some (ceilN m i : Int) := by
  obtain ⟨h1, h2, h3⟩ := read_mag hx
  obtain ⟨_, _, h4, h5, h6⟩ := whole_ok h0 h1 hlt
  obtain ⟨K, last, _, _, _, _, h7, h8⟩ := nearest_int (ceilN m i) h5 h4 h6
  have e : FloatKind.f64.decode (FloatKind.f64.encode ((FloatKind.f64.decode x).integral .up)) = .number false K last := by
    rw [hx, integral_number, cut_ceil]
    exact h7
  unfold floatToIntVal
  rw [e, toInt_whole h8]
  simp only [i64_bounds.1, i64_bounds.2]
  rw [if_pos (by omega)]
/-- A number cut, as an integer. -/
theorem trunc_val {x m : Nat} {i : Int} (hx : FloatKind.f64.decode x = .number false m i) (h0 : 0 < m) (hlt : 0 ≤ i → m * 2 ^ i.toNat < 2 ^ 62) : floatToIntVal .f64 x .i64 = some (truncN m i : Int) := by
  obtain ⟨h1, h2, h3⟩ := read_mag hx
  obtain ⟨h4, _, _, _, _⟩ := whole_ok h0 h1 hlt
  unfold floatToIntVal
  rw [hx, toInt_number, cut_trunc]
  simp only [i64_bounds.1, i64_bounds.2]
  rw [if_pos (by omega)]
theorem read_zero : FloatKind.f64.decode 0 = .number false 0 (-1074) := by decide
/-- A number cut, as a float again: less than it was, where something was left over. -/
theorem trunc_order {x m : Nat} {i : Int} (hx : FloatKind.f64.decode x = .number false m i) (h0 : 0 < m) (hlt : 0 ≤ i → m * 2 ^ i.toNat < 2 ^ 62) : FloatKind.f64.format.order (floatOfInt .f64 (truncN m i : Int)) x = some (if leftN m i = 0 then .eq else .lt) := by
  obtain ⟨h1, h2, h3⟩ := read_mag hx
  obtain ⟨h4, h5, _, _, _⟩ := whole_ok h0 h1 hlt
  have hv := val_trunc m i (by omega)
  have hb : (FloatKind.f64.format.order (floatOfInt .f64 (truncN m i : Int)) x) = (FloatKind.f64.decode (floatOfInt .f64 (truncN m i : Int))).order (.number false m i) := by rw [← hx]; rfl
  have hcmp : (if truncN m i * uni < val m i then Ordering.lt else if truncN m i * uni = val m i then .eq else .gt) = (if leftN m i = 0 then .eq else .lt) := by
    rw [hv]
    by_cases hi : 0 ≤ i
    · have : leftN m i = 0 := if_pos hi
      rw [if_pos hi, this]; simp
    · rw [if_neg hi]
      by_cases hl : leftN m i = 0
      · rw [hl]; simp
      · have := Nat.mul_pos (Nat.pos_of_ne_zero hl) (two_pos (i + 1100).toNat)
        rw [if_pos (by omega), if_neg hl]
  rw [hb, ← hcmp]
  have hf : floatOfInt .f64 (truncN m i : Int) = double.nearest false (truncN m i) 0 := by
    show double.nearest (decide ((truncN m i : Int) < 0)) (truncN m i : Int).natAbs 0 = _
    rw [decide_eq_false (by omega), Int.natAbs_natCast]
  by_cases ht : truncN m i = 0
  · have e : FloatKind.f64.decode (floatOfInt .f64 (truncN m i : Int)) = .number false 0 (-1074) := by rw [hf, ht]; exact read_zero
    rw [e, order_val _ _ _ _ (by omega) (by omega), ht]
    simp [val]
  · obtain ⟨K, last, _, _, h6, _, h7, h8⟩ := nearest_int (truncN m i) (by omega) h4 h5
    have e : FloatKind.f64.decode (floatOfInt .f64 (truncN m i : Int)) = .number false K last := by rw [hf]; exact h7
    rw [e, order_val _ _ _ _ (by omega) (by omega), val_whole h6 h8]
end Go.Cour
/- Ticks of any float: the program's and the chapter's. -/
namespace Go.Proofs.Ytofpmigifimfoaa
open Go.RowKit Go.Cour Ieee
theorem ford_def (x y : Nat) : ford x y = (FloatKind.f64.decode x).order (FloatKind.f64.decode y) := rfl
theorem read_big : FloatKind.f64.decode 4886405595696988160 = .number false 4503599627370496 10 := by decide
theorem gt_zero {x : Nat} (h : ford x 0 = some .gt) : (∃ m i, FloatKind.f64.decode x = .number false m i ∧ 0 < m) ∨ FloatKind.f64.decode x = .infinity false := by
  rw [ford_def, read_zero] at h
  cases hd : FloatKind.f64.decode x with
  | nan s t => rw [hd] at h; cases h
  | infinity s =>
    rw [hd] at h
    cases s
    · exact .inr rfl
    · cases h
  | number s m i =>
    have hm := read_mag hd
    cases s
    · rw [hd, order_val _ _ _ _ (by omega) (by omega)] at h
      refine .inl ⟨m, i, rfl, ?_⟩
      rcases Nat.eq_zero_or_pos m with h0 | h0
      · subst h0; simp [val] at h
      · exact h0
    · exfalso
      rw [hd] at h
      unfold Datum.order at h
      injection h with h
      rw [cmp_int] at h
      simp only [signed, if_true, Bool.false_eq_true, if_false] at h
      generalize (m <<< (i - min i (-1074)).toNat : Nat) = u at h
      rw [Nat.zero_shiftLeft] at h
      split at h
      · cases h
      · split at h
        · cases h
        · omega
theorem none_zero {x : Nat} (h : ford x 0 = none) : ford x x = none := by
  rw [ford_def, read_zero] at h
  rw [ford_def]
  cases hd : FloatKind.f64.decode x with
  | nan s t => rfl
  | infinity s => rw [hd] at h; cases h
  | number s m i => rw [hd] at h; cases h
theorem eq_self {x m : Nat} {i : Int} (h : FloatKind.f64.decode x = .number false m i) : ford x x = some .eq := by
  have hm := read_mag h
  rw [ford_def, h, order_val _ _ _ _ (by omega) (by omega)]
  simp
theorem big_order {x m : Nat} {i : Int} (h : FloatKind.f64.decode x = .number false m i) : ford x 4886405595696988160 = some (if val m i < val 4503599627370496 10 then .lt else if val m i = val 4503599627370496 10 then .eq else .gt) := by
  have hm := read_mag h
  rw [ford_def, h, read_big, order_val _ _ _ _ (by omega) (by omega)]
theorem lt_big {x m : Nat} {i : Int} (h : FloatKind.f64.decode x = .number false m i) (hb : ford x 4886405595696988160 = some .lt) : 0 ≤ i → m * 2 ^ i.toNat < 2 ^ 62 := fun hi => by
  rw [big_order h] at hb
  have h1 : val m i < val 4503599627370496 10 := by
    by_cases h2 : val m i < val 4503599627370496 10
    · exact h2
    · rw [if_neg h2] at hb; split at hb <;> cases hb
  have e1 := val_trunc m i (by omega)
  have e2 := val_trunc 4503599627370496 10 (by omega)
  rw [if_pos hi, Nat.add_zero] at e1
  rw [if_pos (by omega), Nat.add_zero] at e2
  rw [e1, e2] at h1
  have h2 := Nat.lt_of_mul_lt_mul_right h1
  have e3 : truncN m i = m * 2 ^ i.toNat := if_pos hi
  have e4 : truncN 4503599627370496 10 = 2 ^ 62 := by decide
  rw [e3, e4] at h2
  exact h2
/-- A float's ticks. -/
def ticksV (x : Nat) : Int := if ford x 0 = some .gt then (if ford x 4886405595696988160 = some .lt then (match FloatKind.f64.decode x with | .number _ m i => (ceilN m i : Int) | _ => 0) else 4611686018427387904) else 0
theorem not_lt_big {x : Nat} (h : ford x 0 = some .gt) (hb : ¬ ford x 4886405595696988160 = some .lt) : (ford x 4886405595696988160 == some .gt || ford x 4886405595696988160 == some .eq) = true := by
  rcases gt_zero h with ⟨m, i, hd, _⟩ | hd
  · rw [big_order hd] at hb ⊢
    split at hb
    · exact absurd rfl hb
    · rename_i h1
      rw [if_neg h1]
      split <;> rfl
  · rw [ford_def, hd, read_big]; rfl
theorem ticks_calls (x : Nat) (w : World) : Calls Try.prog 29 #[.float .f64 x] w fun e w' => e = .returned (.int .i64 (ticksV x)) ∧ w' = w := by
  unfold ticksV
  by_cases h : ford x 0 = some .gt
  · rw [if_pos h]
    by_cases hb : ford x 4886405595696988160 = some .lt
    · rw [if_pos hb]
      rcases gt_zero h with ⟨m, i, hd, h0⟩ | hd
      · have hc := ceil_val hd h0 (lt_big hd hb)
        rw [hd]
        exact ticksMid_calls x _ w h hb (by rw [hd]; rfl) hc
      · rw [ford_def, hd, read_big] at hb; cases hb
    · rw [if_neg hb]
      exact ticksMax_calls x w h (not_lt_big h hb)
  · rw [if_neg h]
    exact ticks0_calls x w (by simpa using h)
theorem none1_calls (b : Nat) (w : World) : Calls Try.prog 31 #[.float .f64 b] w fun e w' => e = .returned (.bool (ford b b != some .eq)) ∧ w' = w := by
  go_enter Try.func31, Try.ntmps31
  go_wp2_with fail
  go_ret
  exact ⟨rfl, rfl⟩
theorem ticks1_calls (x : Nat) (w : World) : Calls Try.prog 33 #[.float .f64 x] w fun e w' => e = .returned (.int .i64 (ticksV x)) ∧ w' = w := by
  obtain ⟨V, hV⟩ : ∃ V, Hd (ticksV x = V) := ⟨_, hid rfl⟩
  rw [hV.out]
  by_cases h : ford x 0 = some .gt
  · by_cases hb : ford x 4886405595696988160 = some .lt
    · rcases gt_zero h with ⟨m, i, hd, h0⟩ | hd
      · have hself := eq_self hd
        have hlt := lt_big hd hb
        obtain ⟨T, hT⟩ : ∃ T : Nat, Hd (truncN m i = T) := ⟨_, hid rfl⟩
        have hTb : T < 4611686018427387904 := by have := (whole_ok h0 (read_mag hd).1 hlt).1; rw [hT.out] at this; exact this
        have ho := trunc_order hd h0 hlt
        have ht := trunc_val hd h0 hlt
        rw [hT.out] at ho ht
        have hc := fun w => run_convert_float_int (P := Try.prog) w 35 2 .f64 .i64 x T und_f64 und_i64 ht
        have hVT : Hd (V = (ceilN m i : Int)) := hid (by rw [← hV.out, ticksV, if_pos h, if_pos hb, hd])
        by_cases hl : leftN m i = 0
        · rw [if_pos hl] at ho
          have hv2 : Hd (V = (T : Int)) := hid (by rw [hVT.out, ceilN, if_pos hl, hT.out, Nat.add_zero])
          clear hl
          go_enter Try.func33, Try.ntmps33
          go_wp2_with (first
            | (go_at_call 31; refine (none1_calls _ _).mono ?_; rintro e w1 ⟨rfl, rfl⟩)
            | fail)
          go_ret
          exact ⟨by rw [hv2.out]; rfl, rfl⟩
        · rw [if_neg hl] at ho
          have hv2 : Hd (V = (T : Int) + 1) := hid (by rw [hVT.out, ceilN, if_neg hl, hT.out]; omega)
          clear hl
          go_enter Try.func33, Try.ntmps33
          go_wp2_with (first
            | (go_at_call 31; refine (none1_calls _ _).mono ?_; rintro e w1 ⟨rfl, rfl⟩)
            | fail)
          go_ret
          exact ⟨by rw [hv2.out]; rfl, rfl⟩
      · rw [ford_def, hd, read_big] at hb; cases hb
    · have hv2 : Hd (V = 4611686018427387904) := hid (by rw [← hV.out, ticksV, if_pos h, if_neg hb])
      have hbb := not_lt_big h hb
      have hself : ford x x = some .eq := by
        rcases gt_zero h with ⟨m, i, hd, _⟩ | hd
        · exact eq_self hd
        · rw [ford_def, hd]; rfl
      clear hb
      go_enter Try.func33, Try.ntmps33
      go_wp2_with (first
        | (go_at_call 31; refine (none1_calls _ _).mono ?_; rintro e w1 ⟨rfl, rfl⟩)
        | fail)
      go_ret
      exact ⟨by rw [hv2.out]; rfl, rfl⟩
  · have hv2 : Hd (V = 0) := hid (by rw [← hV.out, ticksV, if_neg h])
    obtain ⟨q, hq⟩ : ∃ q, ford x 0 = q := ⟨_, rfl⟩
    obtain ⟨s, hs⟩ : ∃ s, ford x x = s := ⟨_, rfl⟩
    have hall : (q = none ∧ s = none) ∨ q = some .lt ∨ q = some .eq := by
      cases q with
      | none => exact .inl ⟨rfl, by rw [← hs]; exact none_zero hq⟩
      | some o => cases o with
        | lt => exact .inr (.inl rfl)
        | eq => exact .inr (.inr rfl)
        | gt => exact absurd hq h
    clear h
    rcases hall with ⟨rfl, rfl⟩ | hq2
    · go_enter Try.func33, Try.ntmps33
      go_wp2_with (first
        | (go_at_call 31; refine (none1_calls _ _).mono ?_; rintro e w1 ⟨rfl, rfl⟩; rw [hs])
        | fail)
      go_ret
      exact ⟨by rw [hv2.out]; rfl, rfl⟩
    · obtain ⟨B, hB⟩ : ∃ B, (s != some Ordering.eq) = B := ⟨_, rfl⟩
      have hq3 : (q == some .lt || q == some .eq) = true := by rcases hq2 with rfl | rfl <;> rfl
      clear hq2
      subst hq
      cases B
      · go_enter Try.func33, Try.ntmps33
        go_wp2_with (first
          | (go_at_call 31; refine (none1_calls _ _).mono ?_; rintro e w1 ⟨rfl, rfl⟩; rw [hs, hB])
          | fail)
        go_ret
        exact ⟨by rw [hv2.out]; rfl, rfl⟩
      · go_enter Try.func33, Try.ntmps33
        go_wp2_with (first
          | (go_at_call 31; refine (none1_calls _ _).mono ?_; rintro e w1 ⟨rfl, rfl⟩; rw [hs, hB])
          | fail)
        go_ret
        exact ⟨by rw [hv2.out]; rfl, rfl⟩
end Go.Proofs.Ytofpmigifimfoaa
/- Rates, what is left: the program's and the chapter's. -/
namespace Go.Cour
open Ieee
theorem cut_even_le (n d : Nat) : Toward.even.cut false n d ≤ n / 2 ^ d + 1 := by
  unfold Toward.cut
  simp only [(cut_gap n d).1]
  have := Bool.toNat_le (c := decide (1 <<< min d (n.log2 + 2) < 2 * (n % (1 <<< min d (n.log2 + 2)))) || (1 <<< min d (n.log2 + 2) == 2 * (n % (1 <<< min d (n.log2 + 2))) && n / 2 ^ d % 2 == 1))
  omega
theorem read_small {r : Nat} (h : r < 9218868437227405312) : ∃ m i, double.read r = .number false m i := by
  unfold Format.read
  simp only [dbl_sign, dbl_binade, dbl_inf, dbl_least]
  rw [Nat.mod_eq_of_lt (by omega), Nat.div_eq_of_lt (by omega)]
  by_cases h1 : r < 4503599627370496
  · rw [if_pos h1]; exact ⟨_, _, rfl⟩
  · rw [if_neg h1, if_pos h]; exact ⟨_, _, rfl⟩
/-- A whole number is a number. -/
theorem ofInt_number (C : Nat) (h1 : C < 2 ^ 63) : ∃ m i, double.read (double.nearest false C 0) = .number false m i := by
  refine read_small ?_
  unfold Format.nearest
  by_cases h0 : C = 0
  · rw [if_pos h0]; decide
  rw [if_neg h0]
  obtain ⟨l, hl⟩ : ∃ l, C.log2 = l := ⟨_, rfl⟩
  have a1 : 2 ^ l ≤ C := by rw [← hl]; exact Nat.log2_self_le h0
  have a2 : C < 2 ^ (l + 1) := by rw [← hl]; exact lt_log C
  have a3 : l ≤ 62 := by
    rcases Nat.lt_or_ge l 63 with h | h
    · omega
    · have := Nat.pow_le_pow_right (n := 2) (by decide) h
      omega
  simp only [dbl_frac, dbl_least, dbl_binade, dbl_inf, hl]
  have e5 : max ((0 : Int) + (l : Int) - ((52 : Nat) : Int)) (-1074) = (l : Int) - 52 := by omega
  rw [e5]
  have hk : Toward.even.cut false (C <<< ((0 : Int) - ((l : Int) - 52)).toNat) ((l : Int) - 52 - 0).toNat ≤ 9007199254740993 := by
    refine Nat.le_trans (cut_even_le _ _) ?_
    rw [Nat.shiftLeft_eq]
    by_cases hc : l ≤ 52
    · rw [show ((l : Int) - 52 - 0).toNat = 0 by omega, Nat.pow_zero, Nat.div_one]
      obtain ⟨s, hs⟩ : ∃ s, l + s = 52 := ⟨52 - l, by omega⟩
      have b2 : 2 ^ (l + 1) * 2 ^ s = 9007199254740992 := by rw [← Nat.pow_add, show l + 1 + s = 53 by omega]
      have k2 : C * 2 ^ s < 9007199254740992 := by rw [← b2]; exact Nat.mul_lt_mul_of_pos_right a2 (two_pos s)
      rw [show ((0 : Int) - ((l : Int) - 52)).toNat = s by omega]
      omega
    · obtain ⟨s, hs⟩ : ∃ s, l = 52 + s := ⟨l - 52, by omega⟩
      rw [show ((0 : Int) - ((l : Int) - 52)).toNat = 0 by omega, Nat.pow_zero, Nat.mul_one, show ((l : Int) - 52 - 0).toNat = s by omega]
      have b2 : 2 ^ (l + 1) = 9007199254740992 * 2 ^ s := by rw [show l + 1 = 53 + s by omega, Nat.pow_add]
      have : C / 2 ^ s < 9007199254740992 := by rw [Nat.div_lt_iff_lt_mul (two_pos s), ← b2]; exact a2
      omega
  unfold Format.word
  rw [if_neg (by decide)]
  refine Nat.lt_of_le_of_lt (Nat.min_le_left _ _) ?_
  have : ((l : Int) - 52 - -1074).toNat ≤ 1084 := by omega
  have := Nat.mul_le_mul_right 4503599627370496 this
  omega
theorem nan_self (r : Nat) (t : Nat) (h : r = (t % 2) * 2 ^ 63 + 0x7ff0000000000000 + 1 + (t / 2) % (2 ^ 52 - 1)) : FloatKind.f64.format.order r r = none := by
  have e : ∃ s k, double.read r = .nan s k := by
    unfold Format.read
    simp only [dbl_sign, dbl_binade, dbl_inf, dbl_least]
    have h2 : r % 9223372036854775808 = 9218868437227405312 + 1 + (t / 2) % 4503599627370495 := by omega
    rw [h2, if_neg (by omega), if_neg (by omega), if_neg (by omega)]
    exact ⟨_, _, rfl⟩
  obtain ⟨s, k, e⟩ := e
  show (double.read r).order (double.read r) = none
  rw [e]; rfl
end Go.Cour
namespace Go.Proofs.Ytofpmigifimfoaa
open Go.RowKit Go.Cour Ieee
theorem run_quo_none (x y : Nat) (h : floatBits .quo .f64 x y = none) (w : World) : ∃ r, ford r r = none ∧ (binOp .quo 35 (.float .f64 x) (.float .f64 y)).run Try.prog w = .ok (.float .f64 r) w.drew := by
  refine ⟨(Question.nanBits .f64 x y).cut (w.tape w.drawn (.nanBits .f64 x y)), nan_self _ _ rfl, ?_⟩
  have h2 : FloatKind.f64.format.div x y = none := h
  simp [binOp, Op.floatArith, h2, Question.forced]
/-- What a rate's bits are. -/
def RateIs (a b : Int) (r : Nat) : Prop := floatBits .quo .f64 (floatOfInt .f64 a) (floatOfInt .f64 b) = some r ∨ (floatBits .quo .f64 (floatOfInt .f64 a) (floatOfInt .f64 b) = none ∧ ford r r = none)
theorem rateG_calls (a b : Int) (w : World) : Calls Try.prog 27 #[.int .i64 a, .int .i64 b] w fun e w' => ∃ r, e = .returned (.float .f64 r) ∧ RateIs a b r ∧ ∃ q, w' = w.drewN q := by
  cases h : floatBits .quo .f64 (floatOfInt .f64 a) (floatOfInt .f64 b) with
  | some r => exact (rate_calls a b r w h).mono fun e w' ⟨h1, h2⟩ => ⟨r, h1, .inl h, 0, h2⟩
  | none =>
    obtain ⟨r, hr, hq⟩ := run_quo_none _ _ h w
    have hR : Hd (RateIs a b r) := hid (.inr ⟨h, hr⟩)
    clear h hr
    go_enter Try.func27, Try.ntmps27
    go_wp2_with fail
    go_ret
    exact ⟨r, rfl, hR.out, 1, rfl⟩
theorem rate1G_calls (a b : Int) (w : World) : Calls Try.prog 21 #[.int .i64 a, .int .i64 b] w fun e w' => ∃ r, e = .returned (.float .f64 r) ∧ RateIs a b r ∧ ∃ q, w' = w.drewN q := by
  cases h : floatBits .quo .f64 (floatOfInt .f64 a) (floatOfInt .f64 b) with
  | some r =>
    have hq := fun w => run_float_arith (P := Try.prog) w .quo 35 .f64 _ _ r h
    have hR : Hd (RateIs a b r) := hid (.inl h)
    clear h
    go_enter Try.func21, Try.ntmps21
    go_wp2_with fail
    go_ret
    exact ⟨r, rfl, hR.out, 0, rfl⟩
  | none =>
    obtain ⟨r, hr, hq⟩ := run_quo_none _ _ h w
    have hR : Hd (RateIs a b r) := hid (.inr ⟨h, hr⟩)
    clear h hr
    go_enter Try.func21, Try.ntmps21
    go_wp2_with fail
    go_ret
    exact ⟨r, rfl, hR.out, 1, rfl⟩
theorem progressG_calls (a b : Int) (w : World) : Calls Try.prog 20 #[.int .i64 a, .int .i64 b] w fun e w' => ∃ r, e = .returned (.float .f64 r) ∧ RateIs a b r ∧ ∃ q, w' = w.drewN q := by
  go_enter Try.func20, Try.ntmps20
  go_wp2_with fail
  refine (rateG_calls a b _).mono ?_
  rintro e w1 ⟨r, rfl, hR, q, hw⟩
  have hR := hid hR
  have hw := hid hw
  go_wp2_with fail
  go_ret
  exact ⟨r, rfl, hR.out, q, rfl⟩
theorem same1_calls (a b : Nat) (w : World) (h : a = b ∨ (ford a a = none ∧ ford b b = none)) : Calls Try.prog 19 #[.float .f64 a, .float .f64 b] w fun e w' => e = .returned (.bool true) ∧ w' = w := by
  have hf := run_fbits
  rcases h with rfl | ⟨ha, hb⟩
  · obtain ⟨B, hB⟩ : ∃ B, (ford a a != some .eq) = B := ⟨_, rfl⟩
    cases B
    · go_enter Try.func19, Try.ntmps19
      go_wp2_with (first
        | (go_at_call 31; refine (none1_calls _ _).mono ?_; rintro e w1 ⟨rfl, rfl⟩; rw [hB])
        | fail)
      go_ret
      exact ⟨rfl, rfl⟩
    · go_enter Try.func19, Try.ntmps19
      go_wp2_with (first
        | (go_at_call 31; refine (none1_calls _ _).mono ?_; rintro e w1 ⟨rfl, rfl⟩; rw [hB])
        | fail)
      go_ret
      exact ⟨rfl, rfl⟩
  · go_enter Try.func19, Try.ntmps19
    go_wp2_with fail
    refine (none1_calls _ _).mono ?_
    rintro e w1 ⟨rfl, rfl⟩
    rw [ha]
    go_wp2_with fail
    refine (none1_calls _ _).mono ?_
    rintro e w1 ⟨rfl, rfl⟩
    rw [hb]
    go_wp2_with fail
    go_ret
    exact ⟨rfl, rfl⟩
theorem RateIs.same {a b : Int} {r s : Nat} (h : RateIs a b r) (k : RateIs a b s) : r = s ∨ (ford r r = none ∧ ford s s = none) := by
  rcases h with h | ⟨h, h2⟩ <;> rcases k with k | ⟨k, k2⟩
  · rw [h] at k; injection k with k; exact .inl k
  · rw [h] at k; cases k
  · rw [h] at k; cases k
  · exact .inr ⟨h2, k2⟩
/-- How long what is left takes. -/
def leftV (have_ all : Int) (r : Nat) : Int := if all ≤ have_ then 0 else if ford r 0 = some .gt then ticksV ((FloatKind.f64.format.div (floatOfInt .f64 (all - have_)) r).getD 0) else 4611686018427387904
theorem quo_some (n : Int) (r : Nat) (h1 : 0 < n) (h2 : n < 9223372036854775808) (hr : ford r 0 = some .gt) : floatBits .quo .f64 (floatOfInt .f64 n) r = some ((FloatKind.f64.format.div (floatOfInt .f64 n) r).getD 0) := by
  obtain ⟨C, rfl⟩ : ∃ C : Nat, n = C := ⟨n.toNat, by omega⟩
  have hf : floatOfInt .f64 (C : Int) = double.nearest false C 0 := by
    show double.nearest (decide ((C : Int) < 0)) (C : Int).natAbs 0 = _
    rw [decide_eq_false (by omega), Int.natAbs_natCast]
  obtain ⟨m, i, hd⟩ := ofInt_number C (by omega)
  rw [← hf] at hd
  have key : ∃ d, (double.read (floatOfInt .f64 (C : Int))).quotient (52 + 2) (double.read r) = some d := by
    rw [hd]
    rcases gt_zero hr with ⟨m', i', hd', h0⟩ | hd'
    · have e : double.read r = .number false m' i' := hd'
      rw [e]
      unfold Datum.quotient
      simp only []
      rw [if_neg (by omega)]
      exact ⟨_, rfl⟩
    · have e : double.read r = .infinity false := hd'
      rw [e]; exact ⟨_, rfl⟩
  obtain ⟨d, hq⟩ := key
  have : FloatKind.f64.format.div (floatOfInt .f64 (C : Int)) r = some (double.write d) := by
    show ((double.read (floatOfInt .f64 (C : Int))).quotient (52 + 2) (double.read r)).map double.write = _
    rw [hq]; rfl
  show FloatKind.f64.format.div (floatOfInt .f64 (C : Int)) r = _
  rw [this]; rfl
theorem ticks_inf : ticksV 9218868437227405312 = 4611686018427387904 := by decide
theorem left_calls (h a : Int) (r : Nat) (w : World) (hh : -4611686018427387904 ≤ h ∧ h < 4611686018427387904) (ha : -4611686018427387904 ≤ a ∧ a < 4611686018427387904) :
    Calls Try.prog 22 #[.int .i64 h, .int .i64 a, .float .f64 r] w fun e w' => e = .returned (.int .i64 (leftV h a r)) ∧ w' = w := by
  have h1 := hh.1
  have h2 := hh.2
  have h3 := ha.1
  have h4 := ha.2
  unfold leftV
  by_cases c1 : a ≤ h
  · rw [if_pos c1]
    go_enter Try.func22, Try.ntmps22
    go_wp2_with fail
    go_ret
    exact ⟨rfl, rfl⟩
  · rw [if_neg c1]
    by_cases c2 : ford r 0 = some .gt
    · rw [if_pos c2]
      have hq := fun w => run_float_arith (P := Try.prog) w .quo 35 .f64 _ _ _ (quo_some (a - h) r (by omega) (by omega) c2)
      generalize (FloatKind.f64.format.div (floatOfInt .f64 (a - h)) r).getD 0 = y at hq ⊢
      go_enter Try.func22, Try.ntmps22
      go_wp2_with fail
      refine (ticks_calls y _).mono ?_
      rintro e w1 ⟨rfl, rfl⟩
      go_wp2_with fail
      go_ret
      exact ⟨rfl, rfl⟩
    · rw [if_neg c2]
      have c3 : (ford r 0 == some .gt) = false := by simpa using c2
      clear c2
      go_enter Try.func22, Try.ntmps22
      go_wp2_with fail
      refine (inf1_calls _).mono ?_
      rintro e w1 ⟨rfl, rfl⟩
      go_wp2_with fail
      refine (ticks_calls _ _).mono ?_
      rintro e w1 ⟨rfl, rfl⟩
      rw [ticks_inf]
      go_wp2_with fail
      go_ret
      exact ⟨rfl, rfl⟩
theorem left16_calls (h a : Int) (r : Nat) (w : World) (hh : -4611686018427387904 ≤ h ∧ h < 4611686018427387904) (ha : -4611686018427387904 ≤ a ∧ a < 4611686018427387904) :
    Calls Try.prog 23 #[.int .i64 h, .int .i64 a, .float .f64 r] w fun e w' => e = .returned (.int .i64 (leftV h a r)) ∧ w' = w := by
  have h1 := hh.1
  have h2 := hh.2
  have h3 := ha.1
  have h4 := ha.2
  unfold leftV
  by_cases c1 : a ≤ h
  · rw [if_pos c1]
    go_enter Try.func23, Try.ntmps23
    go_wp2_with fail
    go_ret
    exact ⟨rfl, rfl⟩
  · rw [if_neg c1]
    by_cases c2 : ford r 0 = some .gt
    · rw [if_pos c2]
      have hq := fun w => run_float_arith (P := Try.prog) w .quo 35 .f64 _ _ _ (quo_some (a - h) r (by omega) (by omega) c2)
      generalize (FloatKind.f64.format.div (floatOfInt .f64 (a - h)) r).getD 0 = y at hq ⊢
      go_enter Try.func23, Try.ntmps23
      go_wp2_with fail
      refine (ticks1_calls y _).mono ?_
      rintro e w1 ⟨rfl, rfl⟩
      go_wp2_with fail
      go_ret
      exact ⟨rfl, rfl⟩
    · rw [if_neg c2]
      have c3 : (ford r 0 == some .gt) = false := by simpa using c2
      clear c2
      go_enter Try.func23, Try.ntmps23
      go_wp2_with fail
      go_ret
      exact ⟨rfl, rfl⟩
end Go.Proofs.Ytofpmigifimfoaa
/- Number: a number from 0 to below a bound. -/
namespace Go.Proofs.Ytofpmigifimfoaa
open Go.RowKit Go.Cour
theorem tmod_low (a b : Int) (hb : 0 < b) : -b < a.tmod b ∧ a.tmod b < b := by
  have := Int.tmod_lt_of_pos a hb
  have := Int.lt_tmod_of_pos a hb
  omega
theorem emod_of_tmod (a b : Int) (hb : 0 < b) : a % b = if a.tmod b < 0 then a.tmod b + b else a.tmod b := by
  have h1 := tmod_low a b hb
  have h2 := Int.mul_tdiv_add_tmod a b
  split
  · refine (Int.emod_emod_of_dvd a (Int.dvd_refl b)).symm.trans ?_
    rw [← h2]
    have : (b * a.tdiv b + a.tmod b) % b = (a.tmod b + b) % b := by
      rw [Int.add_comm, Int.add_mul_emod_self_left, Int.add_emod_right]
    rw [h2] at this ⊢
    rw [Int.emod_emod_of_dvd _ (Int.dvd_refl b), this]
    exact Int.emod_eq_of_lt (by omega) (by omega)
  · have : (b * a.tdiv b + a.tmod b) % b = a.tmod b % b := by
      rw [Int.add_comm, Int.add_mul_emod_self_left]
    rw [h2] at this
    rw [this]
    exact Int.emod_eq_of_lt (by omega) (by omega)
theorem number_calls (a b : Int) (w : World) (hb : 0 < b) (hb2 : b < 4611686018427387904) :
    Calls Try.prog 9 #[.int .i64 a, .int .i64 b] w fun e w' => e = .returned (.int .i64 (a % b)) ∧ w' = w := by
  have hl := tmod_low a b hb
  have HE := hid (emod_of_tmod a b hb)
  have hbz : (b == 0) = false := by rw [beq_eq_false_iff_ne]; omega
  have hlt1 := hl.1
  have hlt2 := hl.2
  clear hl
  by_cases hn : a.tmod b < 0
  · go_enter Try.func9, Try.ntmps9
    go_wp2
    go_ret
    exact ⟨by rw [HE.out, if_pos hn]; rfl, rfl⟩
  · go_enter Try.func9, Try.ntmps9
    go_wp2
    go_ret
    exact ⟨by rw [HE.out, if_neg (by omega)]; rfl, rfl⟩
end Go.Proofs.Ytofpmigifimfoaa
