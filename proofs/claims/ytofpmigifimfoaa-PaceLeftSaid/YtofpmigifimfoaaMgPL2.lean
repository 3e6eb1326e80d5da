import Derived.Test.YtofpmigifimfoaaMgPL0
import Derived.Test.YtofpmigifimfoaaMgPL1
set_option linter.unusedSimpArgs false
set_option linter.unusedVariables false
/- A region that draws its order: reads; soft acts (they make memory, and leave all that is there); hard ones. -/
namespace Go.Cour
open Go.RowKit
theorem mem_iff {w : World} : ∀ {L : List Ent}, Mem w L ↔ (∀ e ∈ L, e.p w) ∧ L.Pairwise (fun e f => ∀ k, e.F k → ¬ f.F k)
  | [] => by simp [Mem]
  | e :: L => by
    simp only [Mem, mem_iff, List.mem_cons, List.pairwise_cons, forall_eq_or_imp]
    constructor
    · rintro ⟨h1, h2, h3, h4⟩; exact ⟨⟨h1, h3⟩, h2, h4⟩
    · rintro ⟨⟨h1, h3⟩, h2, h4⟩; exact ⟨h1, h2, h3, h4⟩
theorem Mem.perm {w : World} {L L' : List Ent} (h : Mem w L) (hp : L.Perm L') : Mem w L' := by
  rw [mem_iff] at h ⊢
  exact ⟨fun e he => h.1 e (hp.mem_iff.2 he), hp.pairwise h.2 fun {e f} hef k hf he => hef k he hf⟩
section
variable {F : Nat → Prop} {w0 w w' : World} {L L' E : List Ent}
theorem HS.perm (h : HS F w0 w L) (hp : L.Perm L') : HS F w0 w L' := ⟨h.upd, h.mem.perm hp, fun e he => h.own e (hp.mem_iff.2 he)⟩
theorem HS.sub (h : HS F w0 w L) (hs : L'.Sublist L) : HS F w0 w L' :=
  ⟨h.upd, mem_iff.2 ⟨fun e he => (mem_iff.1 h.mem).1 e (hs.mem he), (mem_iff.1 h.mem).2.sublist hs⟩, fun e he => h.own e (hs.mem he)⟩
theorem HS.drop2 (h : HS F w0 w (E ++ L)) : HS F w0 w L := h.sub (List.sublist_append_right _ _)
/-- New things beside all that is there. -/
theorem HS.beside (h : HS F w0 w L) (hb : Below w.heap.size w w') (hE : HS F w0 w' (E ++ L')) (hn : ∀ e ∈ E, ∀ k, e.F k → w.heap.size ≤ k) : HS F w0 w' (E ++ L) := by
  have h1 := h.below hb
  have hE1 := hE.sub (List.sublist_append_left E L')
  refine ⟨h1.upd, mem_iff.2 ⟨fun e he => ?_, List.pairwise_append.2 ⟨(mem_iff.1 hE1.mem).2, (mem_iff.1 h1.mem).2, fun e he f hf k hk hfk => ?_⟩⟩, fun e he => ?_⟩
  · rcases List.mem_append.1 he with he | he
    · exact (mem_iff.1 hE1.mem).1 e he
    · exact (mem_iff.1 h1.mem).1 e he
  · have := hn e he k hk; have := h.mem.lt hf k hfk; omega
  · rcases List.mem_append.1 he with he | he
    · exact hE1.own e he
    · exact h1.own e he
end
/-- A call that changes some of the things, and lays others in their place. -/
theorem HS.call {F G : Nat → Prop} {w0 w w' : World} {A B L : List Ent} (h : HS F w0 w (A ++ L)) (hc : HS G w w' B) (hG : ∀ k, G k → ∃ e ∈ A, e.F k) : HS F w0 w' (B ++ L) := by
  have hdis := (List.pairwise_append.1 (mem_iff.1 h.mem).2).2.2
  have hkeep : ∀ k, k < w.heap.size → ¬ G k → w'.heap[k]? = w.heap[k]? := hc.upd.block
  refine ⟨⟨hc.upd.os.trans h.upd.os, hc.upd.tape.trans h.upd.tape, hc.upd.output.trans h.upd.output, Nat.le_trans h.size hc.size, fun k hk hf => ?_⟩, mem_iff.2 ⟨fun e he => ?_, List.pairwise_append.2 ⟨(mem_iff.1 hc.mem).2, (mem_iff.1 h.drop2.mem).2, fun e he f hf k hk hfk => ?_⟩⟩, fun e he k hk => ?_⟩
  · refine (hkeep k (Nat.lt_of_lt_of_le hk h.size) fun hg => ?_).trans (h.upd.block k hk hf)
    obtain ⟨e, he, hek⟩ := hG k hg
    rcases h.own e (List.mem_append_left _ he) k hek with h1 | h1
    · exact hf h1
    · omega
  · rcases List.mem_append.1 he with he | he
    · exact (mem_iff.1 hc.mem).1 e he
    · refine e.kept ((mem_iff.1 h.mem).1 e (List.mem_append_right _ he)) fun k hk => hkeep k (h.mem.lt (List.mem_append_right _ he) k hk) fun hg => ?_
      obtain ⟨e', he', hek⟩ := hG k hg
      exact hdis e' he' e he k hek hk
  · rcases hc.own e he k hk with h1 | h1
    · obtain ⟨e', he', hek⟩ := hG k h1
      exact hdis e' he' f hf k hek hfk
    · have := h.mem.lt (List.mem_append_right _ hf) k hfk; omega
  · rcases List.mem_append.1 he with he | he
    · rcases hc.own e he k hk with h1 | h1
      · obtain ⟨e', he', hek⟩ := hG k h1
        exact h.own e' (List.mem_append_left _ he') k hek
      · exact .inr (Nat.le_trans h.size h1)
    · exact h.own e (List.mem_append_right _ he) k hk
/-- An operation's kind: 1 a soft act, 2 a hard one, 0 it reads. -/
def kdOf (sa hh : List Nat) (i : Nat) : Nat := if sa.contains i then 1 else if hh.contains i then 2 else 0
def okPair (sa hh : List Nat) (p i : Nat) : Bool := kdOf sa hh p == 0 || kdOf sa hh i == 0 || (kdOf sa hh p == 1 && kdOf sa hh i == 1)
section
variable (P : Program) (ops : Array Oper) (N : Act → World → Prop) (F : Nat → Prop) (w0 : World) (sa hh : List Nat) (K : Nat → Value → List Ent → Prop)
/-- What a soft act does. -/
def SoftQ (i : Nat) (L0 : List Ent) (w' : World) (u : Value) (w'' : World) : Prop := ∃ E, K i u E ∧ HS F w0 w'' (E ++ L0) ∧ Below w'.heap.size w' w'' ∧ ∀ e ∈ E, ∀ k, e.F k → w'.heap.size ≤ k
/-- The operations walked in the order of the text. -/
def wpS : List Ent → List Ent → List Nat → Act → Prop
  | L0, σ, [], a => ∀ w, HS F w0 w (σ ++ L0) → N a w
  | L0, σ, i :: rest, a => match ops[i]? with
    | none => False
    | some o =>
      if kdOf sa hh i = 0 then ∃ v, (∀ w', HS F w0 w' L0 → Rd1 P ops o a w' v) ∧ wpS L0 σ rest (a.put o.dst v)
      else if kdOf sa hh i = 1 then (∀ w', HS F w0 w' L0 → V1 P ops o a w' (SoftQ F w0 K i L0 w')) ∧ ∀ u E, K i u E → (∃ w, HS F w0 w (E ++ σ ++ L0)) → wpS L0 (E ++ σ) rest (a.put o.dst u)
      else ∀ w, HS F w0 w (σ ++ L0) → V1 P ops o a w fun u w' => if totB ops i then ∃ L1 σ', HS F w0 w' (σ' ++ L1) ∧ wpS L1 σ' rest (a.put o.dst u) else ∃ σ', HS F w0 w' (σ' ++ L0) ∧ wpS L0 σ' rest (a.put o.dst u)
def chkSOne (i : Nat) : Bool :=
  match ops[i]? with
  | none => true
  | some o => (o.after.all fun e => !Region.binds .any e || decide (e.on < i)) && !isSelect o.op &&
    (List.range i).all fun p => dirW ops i p || (match ops[p]? with | some q => q.apart ops o && okPair sa hh p i | none => true)
def chkS : Bool := (List.range ops.size).all (chkSOne ops sa hh)
structure ChkS : Prop where
  back : ∀ (i : Nat) (o : Oper), ops[i]? = some o → ∀ e ∈ o.after, Region.binds .any e = true → e.on < i
  sel : ∀ (i : Nat) (o : Oper), ops[i]? = some o → noSel o
  ahead : ∀ (i : Nat) (o : Oper), ops[i]? = some o → ∀ p q, p < i → ops[p]? = some q → waitsT ops 200 i p = true ∨ (q.apart ops o = true ∧ okPair sa hh p i = true)
end
section
variable {P : Program} {ops : Array Oper} {N : Act → World → Prop} {F : Nat → Prop} {w0 : World} {sa hh : List Nat} {K : Nat → Value → List Ent → Prop}
theorem chkS_spec (h : chkS ops sa hh = true) : ChkS ops sa hh := by
  have h1 : ∀ i o, ops[i]? = some o → ((o.after.all fun e => !Region.binds .any e || decide (e.on < i)) = true ∧ isSelect o.op = false) ∧
    ((List.range i).all fun p => dirW ops i p || (match ops[p]? with | some q => q.apart ops o && okPair sa hh p i | none => true)) = true := fun i o ho => by
    have := List.all_eq_true.1 h i (List.mem_range.2 (Array.getElem?_eq_some_iff.1 ho).1)
    unfold chkSOne at this
    simp only [ho, Bool.and_eq_true, Bool.not_eq_true'] at this
    exact this
  refine ⟨fun i o ho e he hb => ?_, fun i o ho cs b hs => ?_, fun i o ho p q hp hq => ?_⟩
  · have := Array.all_eq_true'.1 (h1 i o ho).1.1 e he
    simpa [hb] using this
  · have := (h1 i o ho).1.2
    rw [hs] at this
    simp [isSelect] at this
  · have := List.all_eq_true.1 (h1 i o ho).2 p (List.mem_range.2 hp)
    simp only [hq, Bool.or_eq_true, Bool.and_eq_true] at this
    rcases this with h2 | h2
    · exact .inl (dirW_waits h2)
    · exact .inr h2
theorem wpS_perm : ∀ (l : List Nat) {L0 σ σ' : List Ent} {a : Act}, wpS P ops N F w0 sa hh K L0 σ l a → σ.Perm σ' → wpS P ops N F w0 sa hh K L0 σ' l a
  | [], L0, σ, σ', a, h, hp => fun w hw => h w (hw.perm ((hp.symm).append_right _))
  | i :: rest, L0, σ, σ', a, h, hp => by
    simp only [wpS] at h ⊢
    cases ho : ops[i]? with
    | none => simp only [ho] at h
    | some o =>
      simp only [ho] at h ⊢
      split
      · rename_i h0
        rw [if_pos h0] at h
        obtain ⟨v, h1, h2⟩ := h
        exact ⟨v, h1, wpS_perm rest h2 hp⟩
      · rename_i h0
        rw [if_neg h0] at h
        split
        · rename_i h1
          rw [if_pos h1] at h
          refine ⟨h.1, fun u E hK ⟨w, hw⟩ => wpS_perm rest (h.2 u E hK ⟨w, hw.perm (((hp.symm).append_left E).append_right L0)⟩) (hp.append_left E)⟩
        · rename_i h1
          rw [if_neg h1] at h
          exact fun w hw => h w (hw.perm ((hp.symm).append_right _))
theorem wpS_pull (i : Nat) (o : Oper) (post : List Nat) (hi : ops[i]? = some o) (hso : noSel o) : ∀ (pre : List Nat) (L0 σ : List Ent) (a : Act), (∃ w, HS F w0 w (σ ++ L0)) → (pre ≠ [] → totB ops i = false) → (∀ j ∈ pre, totB ops j = false ∧ ∃ p, ops[j]? = some p ∧ p.apart ops o = true ∧ okPair sa hh j i = true ∧ noSel p) → wpS P ops N F w0 sa hh K L0 σ (pre ++ i :: post) a →
    wpS P ops N F w0 sa hh K L0 σ (i :: (pre ++ post)) a
  | [], L0, σ, a, _, _, _, h => h
  | j :: pre, L0, σ, a, hw, hti, hp, h => by
    obtain ⟨htj, p, hj, hap, hok, hsp⟩ := hp j (List.mem_cons_self ..)
    have hti' := hti (by simp)
    obtain ⟨s1, s2, s3⟩ := Oper.apart_spec hap
    have s4 : ∀ t, o.dst = some t → p.dst ≠ some t := fun t ht hpt => s2 t hpt ht
    have ih := fun σ a hw => wpS_pull i o post hi hso pre L0 σ a hw (fun _ => hti') (fun q hq => hp q (List.mem_cons_of_mem _ hq))
    simp only [List.cons_append, wpS, hj, hi, htj, hti', Bool.false_eq_true, if_false] at h ih ⊢
    obtain ⟨w, hw⟩ := hw
    have hwL := hw.drop2
    by_cases kp0 : kdOf sa hh j = 0
    · rw [if_pos kp0] at h
      obtain ⟨vp, hvp, h⟩ := h
      have h2 := ih σ _ ⟨w, hw⟩ h
      by_cases ko0 : kdOf sa hh i = 0
      · rw [if_pos ko0] at h2 ⊢
        obtain ⟨v, hv, h3⟩ := h2
        refine ⟨v, fun w' hw' => (Rd1.put vp s1 s2 hso).1 (hv w' hw'), ?_⟩
        rw [if_pos kp0]
        refine ⟨vp, fun w' hw' => (Rd1.put v s3 s4 hsp).2 (hvp w' hw'), ?_⟩
        rw [← Act.put_comm a vp v s2]; exact h3
      · rw [if_neg ko0] at h2 ⊢
        by_cases ko1 : kdOf sa hh i = 1
        · rw [if_pos ko1] at h2 ⊢
          refine ⟨fun w' hw' => (V1.put vp s1 hso).1 (h2.1 w' hw'), fun u E hK hx => ?_⟩
          rw [if_pos kp0]
          refine ⟨vp, fun w'' hw'' => (Rd1.put u s3 s4 hsp).2 (hvp w'' hw''), ?_⟩
          rw [← Act.put_comm a vp u s2]; exact h2.2 u E hK hx
        · rw [if_neg ko1] at h2 ⊢
          intro w1 hw1
          refine ((V1.put vp s1 hso).1 (h2 w1 hw1)).mono fun u w' ⟨σ', h3, h4⟩ => ⟨σ', h3, ?_⟩
          rw [if_pos kp0]
          refine ⟨vp, fun w'' hw'' => (Rd1.put u s3 s4 hsp).2 (hvp w'' hw''), ?_⟩
          rw [← Act.put_comm a vp u s2]; exact h4
    · rw [if_neg kp0] at h
      by_cases kp1 : kdOf sa hh j = 1
      · rw [if_pos kp1] at h
        obtain ⟨hv1, hk⟩ := h
        obtain ⟨u0, w1, E0, hK0, hE0, hb0, hn0⟩ := (hv1 w hwL).ex
        have hx0 : HS F w0 w1 (E0 ++ (σ ++ L0)) := hw.beside hb0 hE0 hn0
        have hx0' : ∃ w, HS F w0 w (E0 ++ σ ++ L0) := ⟨w1, by rw [List.append_assoc]; exact hx0⟩
        by_cases ko0 : kdOf sa hh i = 0
        · rw [if_pos ko0]
          have h5 := ih _ _ hx0' (hk u0 E0 hK0 hx0')
          rw [if_pos ko0] at h5
          obtain ⟨v0, hv0, _⟩ := h5
          refine ⟨v0, fun w' hw' => (Rd1.put u0 s1 s2 hso).1 (hv0 w' hw'), ?_⟩
          rw [if_neg kp0, if_pos kp1]
          refine ⟨fun w' hw' => (V1.put v0 s3 hsp).2 (hv1 w' hw'), fun u E hK hx => ?_⟩
          have h6 := ih _ _ hx (hk u E hK hx)
          rw [if_pos ko0] at h6
          obtain ⟨v, hv, h7⟩ := h6
          have hvv : a.put o.dst v = a.put o.dst v0 := ((Rd1.put u s1 s2 hso).1 (hv w hwL)).det ((Rd1.put u0 s1 s2 hso).1 (hv0 w hwL))
          rw [Act.put_comm a u v s2, hvv] at h7
          exact h7
        · rw [if_neg ko0]
          have ko1 : kdOf sa hh i = 1 := by
            unfold okPair at hok
            simp only [Bool.or_eq_true, Bool.and_eq_true, beq_iff_eq] at hok
            rcases hok with (h1 | h1) | h1
            · exact absurd h1 kp0
            · exact absurd h1 ko0
            · exact h1.2
          rw [if_pos ko1]
          have h5 := ih _ _ hx0' (hk u0 E0 hK0 hx0')
          rw [if_neg ko0, if_pos ko1] at h5
          refine ⟨fun w' hw' => (V1.put u0 s1 hso).1 (h5.1 w' hw'), fun v Eo hKo hxo => ?_⟩
          rw [if_neg kp0, if_pos kp1]
          refine ⟨fun w' hw' => (V1.put v s3 hsp).2 (hv1 w' hw'), fun u E hK ⟨w2, hw2⟩ => ?_⟩
          have hpm : (E ++ (Eo ++ σ)).Perm (Eo ++ (E ++ σ)) := by
            rw [← List.append_assoc, ← List.append_assoc]; exact List.perm_append_comm.append_right σ
          have hw3 : HS F w0 w2 (Eo ++ (E ++ σ) ++ L0) := hw2.perm (hpm.append_right L0)
          have hx : ∃ w, HS F w0 w (E ++ σ ++ L0) := ⟨w2, by rw [List.append_assoc Eo] at hw3; exact hw3.drop2⟩
          have h6 := ih _ _ hx (hk u E hK hx)
          rw [if_neg ko0, if_pos ko1] at h6
          have h7 := h6.2 v Eo hKo ⟨w2, hw3⟩
          rw [Act.put_comm a u v s2] at h7
          exact wpS_perm _ h7 hpm.symm
      · rw [if_neg kp1] at h
        have ko0 : kdOf sa hh i = 0 := by
          unfold okPair at hok
          simp only [Bool.or_eq_true, Bool.and_eq_true, beq_iff_eq] at hok
          rcases hok with (h1 | h1) | h1
          · exact absurd h1 kp0
          · exact h1
          · exact absurd h1.1 kp1
        rw [if_pos ko0]
        have h2 : ∀ w, HS F w0 w (σ ++ L0) → V1 P ops p a w fun u w' => ∃ σ', HS F w0 w' (σ' ++ L0) ∧ ∃ v, (∀ w'', HS F w0 w'' L0 → Rd1 P ops o a w'' v) ∧ wpS P ops N F w0 sa hh K L0 σ' (pre ++ post) ((a.put p.dst u).put o.dst v) := fun w1 hw1 => (h w1 hw1).mono fun u w' ⟨σ', h3, h4⟩ => by
          have h5 := ih _ _ ⟨w', h3⟩ h4
          rw [if_pos ko0] at h5
          obtain ⟨v, hv, h6⟩ := h5
          exact ⟨σ', h3, v, fun w'' hw'' => (Rd1.put u s1 s2 hso).1 (hv w'' hw''), h6⟩
        obtain ⟨u0, w1, σ0, hT0, v0, hv0, _⟩ := (h2 w hw).ex
        refine ⟨v0, hv0, ?_⟩
        rw [if_neg kp0, if_neg kp1]
        intro w2 hw2
        refine (V1.put v0 s3 hsp).2 ((h2 w2 hw2).mono fun u w' ⟨σ', h3, v, hv, h4⟩ => ⟨σ', h3, ?_⟩)
        rw [Act.put_comm a u v s2, (hv w' h3.drop2).det (hv0 w' h3.drop2)] at h4
        exact h4
theorem wpAny_S {Q : Exit → Act → World → Prop} (hN : ∀ a w, N a w → Q .normal a w) (hc : ChkS ops sa hh) : ∀ (fuel : Nat) (listed : Array Bool) (L0 σ : List Ent) (a : Act) (w : World), HS F w0 w (σ ++ L0) → listed.size = ops.size → Closed ops listed → (rem ops listed).length ≤ fuel →
    wpS P ops N F w0 sa hh K L0 σ (rem ops listed) a → wpAny P .any ops Q fuel listed a w := by
  have fin : ∀ (listed : Array Bool) (L0 σ : List Ent) (a : Act) (w : World), HS F w0 w (σ ++ L0) → listed.size = ops.size → Region.ready .any ops listed = [] → wpS P ops N F w0 sa hh K L0 σ (rem ops listed) a → Q .normal a w := fun listed L0 σ a w hw hl hr h => by
    have hall : ∀ n j, j < n → j < ops.size → listed.getD j false = true := fun n => by
      induction n with
      | zero => intro j hj; omega
      | succ n ih =>
        intro j hj hlt
        by_cases hjn : j < n
        · exact ih j hjn hlt
        · have hjn' : j = n := by omega
          subst hjn'
          cases hlj : listed.getD j false with
          | true => rfl
          | false =>
            have hun := getD_in (by rw [hl]; exact hlt) hlj
            have ho : ops[j]? = some ops[j] := Array.getElem?_eq_getElem hlt
            have : j ∈ Region.ready .any ops listed := mem_ready.2 ⟨hun, ops[j], ho, fun e he hb => ih e.on (hc.back j _ ho e he hb) (by have := hc.back j _ ho e he hb; omega)⟩
            rw [hr] at this
            cases this
    have hre : rem ops listed = [] := List.filter_eq_nil_iff.2 fun j hj => by
      have := hall (j + 1) j (by omega) (List.mem_range.1 hj)
      unfold unl
      cases h2 : listed.getD j true with
      | true => simp
      | false => rw [getD_both h2] at this; cases this
    rw [hre] at h
    exact hN _ _ (h w hw)
  intro fuel
  induction fuel with
  | zero =>
    intro listed L0 σ a w hT hl hcl hf h
    have hr : Region.ready .any ops listed = [] := by
      rcases hx : Region.ready .any ops listed with _ | ⟨i, l⟩
      · rfl
      · have hm : i ∈ Region.ready .any ops listed := by rw [hx]; exact List.mem_cons_self ..
        obtain ⟨hun, o, ho, _⟩ := mem_ready.1 hm
        have h1 : i ∈ rem ops listed := List.mem_filter.2 ⟨List.mem_range.2 (Array.getElem?_eq_some_iff.1 ho).1, by simp [unl, hun]⟩
        have h2 := List.length_eq_zero_iff.1 (Nat.le_zero.1 hf)
        rw [h2] at h1
        cases h1
    exact ⟨hr, fin listed L0 σ a w hT hl hr h⟩
  | succ fuel ih =>
    intro listed L0 σ a w hT hl hcl hf h
    refine ⟨fun hr => fin listed L0 σ a w hT hl hr h, fun i hir => ?_⟩
    obtain ⟨hun, o, ho, hall⟩ := mem_ready.1 hir
    have hlt := (Array.getElem?_eq_some_iff.1 ho).1
    have him : i ∈ rem ops listed := List.mem_filter.2 ⟨List.mem_range.2 hlt, by simp [unl, hun]⟩
    obtain ⟨s, t, hst⟩ := List.append_of_mem him
    have hpw : (s ++ i :: t).Pairwise (· < ·) := by
      rw [← hst]; exact List.Pairwise.filter _ List.pairwise_lt_range
    have hrem : rem ops (listed.setIfInBounds i true) = s ++ t := by
      rw [← filter_ne_mid hpw, ← hst]
      unfold rem
      rw [List.filter_filter]
      refine List.filter_congr fun j hj => ?_
      unfold unl
      by_cases hij : i = j
      · subst hij
        have h0 : i < listed.size := by rw [hl]; exact hlt
        simp [h0]
      · rw [getD_set_ne true hij]
        simp [Ne.symm hij]
    have hlate : ∀ k ∈ s, waitsT ops 200 i k = true → False := fun k hk hw => by
      have hki : k < i := (List.pairwise_append.1 hpw).2.2 k hk i (List.mem_cons_self ..)
      have hku : k ∈ rem ops listed := by rw [hst]; exact List.mem_append_left _ hk
      have hkun : listed.getD k true = false := by
        have := (List.mem_filter.1 hku).2
        simpa [unl] using this
      have : waitsT ops 200 i k = true := hw
      unfold waitsT at this
      rw [Bool.or_eq_true] at this
      rcases this with h3 | h3
      · have : i = k := by simpa using h3
        omega
      · simp only [ho] at h3
        obtain ⟨e, he, hb⟩ := Array.any_eq_true'.1 h3
        simp only [Bool.and_eq_true] at hb
        have h4 := hcl.waits hl 199 e.on k hb.2 (by have := hc.back i o ho e he hb.1; omega) (hall e he hb.1)
        rw [getD_both hkun] at h4
        cases h4
    have hpre : ∀ j ∈ s, totB ops j = false ∧ ∃ p, ops[j]? = some p ∧ p.apart ops o = true ∧ okPair sa hh j i = true ∧ noSel p := fun k hk => by
      have hki : k < i := (List.pairwise_append.1 hpw).2.2 k hk i (List.mem_cons_self ..)
      have hks : k < ops.size := by omega
      have hkp : ops[k]? = some ops[k] := Array.getElem?_eq_getElem hks
      refine ⟨?_, ops[k], hkp, ?_⟩
      · cases htk : totB ops k with
        | false => rfl
        | true => exact (hlate k hk ((totB_spec htk i hlt).2 hki)).elim
      · rcases hc.ahead i o ho k _ hki hkp with hw | ⟨h1, h2⟩
        · exact (hlate k hk hw).elim
        · exact ⟨h1, h2, hc.sel k _ hkp⟩
    have hti : s ≠ [] → totB ops i = false := fun hs => by
      cases hti : totB ops i with
      | false => rfl
      | true =>
        obtain ⟨k, hk⟩ := List.exists_mem_of_ne_nil s hs
        have hki : k < i := (List.pairwise_append.1 hpw).2.2 k hk i (List.mem_cons_self ..)
        exact (hlate k hk ((totB_spec hti k (by omega)).1 hki)).elim
    rw [hst] at h
    have hpull := wpS_pull i o t ho (hc.sel i o ho) s L0 σ a ⟨w, hT⟩ hti hpre h
    rw [← hrem] at hpull
    simp only [wpS, ho] at hpull
    have hcl' : Closed ops (listed.setIfInBounds i true) := fun j oj hj hl' e he hb => by
      by_cases hij : i = j
      · subst hij
        have : oj = o := Option.some.inj (hj.symm.trans ho)
        subst this
        exact getD_set_true (hall e he hb)
      · rw [getD_set_ne false hij] at hl'
        exact getD_set_true (hcl j oj hj hl' e he hb)
    have hlen : (rem ops (listed.setIfInBounds i true)).length ≤ fuel := by
      rw [hrem]; rw [hst] at hf; simp at hf ⊢; omega
    have next : ∀ (L1 σ' : List Ent) u w', HS F w0 w' (σ' ++ L1) → wpS P ops N F w0 sa hh K L1 σ' (rem ops (listed.setIfInBounds i true)) (a.put o.dst u) → wpAny P .any ops Q fuel (listed.setIfInBounds i true) (a.put o.dst u) w' := fun L1 σ' u w' hT' h' =>
      ih _ _ _ _ _ hT' (by simp [hl]) hcl' hlen h'
    unfold wpOp
    simp only [ho]
    by_cases ko0 : kdOf sa hh i = 0
    · rw [if_pos ko0] at hpull
      obtain ⟨v, hv, h2⟩ := hpull
      have h3 := hv w hT.drop2
      unfold Rd1 at h3
      split at h3 <;> rename_i hw
      · rw [if_pos hw]
        obtain ⟨u, h4, h5⟩ := h3
        refine .inl ?_
        unfold Oper.wp
        rw [h4]
        rw [← h5] at h2
        exact next L0 σ u w hT h2
      · rw [if_neg hw]
        rw [← h3] at h2
        exact next L0 σ _ w hT h2
    · rw [if_neg ko0] at hpull
      have hV : V1 P ops o a w fun u w' => ∃ L1 σ', HS F w0 w' (σ' ++ L1) ∧ wpS P ops N F w0 sa hh K L1 σ' (rem ops (listed.setIfInBounds i true)) (a.put o.dst u) := by
        by_cases ko1 : kdOf sa hh i = 1
        · rw [if_pos ko1] at hpull
          refine (hpull.1 w hT.drop2).mono fun u w' ⟨E, hK, hE, hb, hn⟩ => ?_
          have hx : HS F w0 w' (E ++ σ ++ L0) := by rw [List.append_assoc]; exact hT.beside hb hE hn
          exact ⟨L0, E ++ σ, hx, hpull.2 u E hK ⟨w', hx⟩⟩
        · rw [if_neg ko1] at hpull
          refine (hpull w hT).mono fun u w' hu => ?_
          split at hu
          · exact hu
          · obtain ⟨σ', h1, h2⟩ := hu; exact ⟨L0, σ', h1, h2⟩
      have nextA : ∀ u w', (∃ L1 σ', HS F w0 w' (σ' ++ L1) ∧ wpS P ops N F w0 sa hh K L1 σ' (rem ops (listed.setIfInBounds i true)) (a.put o.dst u)) → wpAny P .any ops Q fuel (listed.setIfInBounds i true) (a.put o.dst u) w' := fun u w' ⟨L1, σ', h1, h2⟩ => next L1 σ' u w' h1 h2
      unfold V1 at hV
      split at hV <;> rename_i hw
      · rw [if_pos hw]
        refine .inl ?_
        unfold Oper.wp
        revert hV
        cases (execOp a.eval o).run P w with
        | halt x w' => exact fun h => h.elim
        | ok n w' =>
          cases n <;> intro h <;> first | exact h.elim | exact nextA _ _ h | skip
          case enter f args =>
            refine Calls.mono h fun e w'' he => ?_
            obtain ⟨v, rfl, h1⟩ := he
            exact nextA v w'' h1
          case row row args => exact Rows.mono h fun u w'' hu => nextA u w'' hu
      · rw [if_neg hw]
        exact nextA _ w hV
/-- A region that draws its order. -/
theorem wp_region_S {id : Nat} {a : Act} {w : World} {Q : Exit → Act → World → Prop} (sa hh : List Nat) (K : Nat → Value → List Ent → Prop) {L0 : List Ent} (σ : List Ent) (hm : P.follows .mixedOrders = true) (hc : chkS ops sa hh = true) (h0 : HS F w0 w (σ ++ L0))
    (h : wpS P ops (fun a' w' => Q .normal a' w') F w0 sa hh K L0 σ (List.range ops.size) a) : (Code.region id ops true).wp P Q a w := by
  refine wp_region_any hm (wpAny_S (K := K) (N := fun a' w' => Q .normal a' w') (fun _ _ h => h) (chkS_spec hc) ops.size _ L0 σ a _ h0.drew (by simp) ?_ ?_ ?_)
  · intro j oj _ hl; rw [getD_replicate_false] at hl; cases hl
  · exact Nat.le_trans (List.length_filter_le _ _) (by simp)
  · have h1 : rem ops (Array.replicate ops.size false) = List.range ops.size := List.filter_eq_self.2 fun j hj => by
      simp [unl, Array.getD, List.mem_range.1 hj]
    rw [h1]; exact h
/-- One that reads. -/
theorem wpS_read {L0 σ : List Ent} {i : Nat} {o : Oper} {rest : List Nat} {a A : Act} (hi : ops[i]? = some o) (hk0 : kdOf sa hh i = 0) (hx : ∃ w, HS F w0 w L0) (hk : readK o.op = true) (h1 : ∀ w', HS F w0 w' L0 → wpList P ops (fun ex a' w'' => ex = .normal ∧ a' = A ∧ w'' = w') [o] a w') (h2 : wpS P ops N F w0 sa hh K L0 σ rest A) : wpS P ops N F w0 sa hh K L0 σ (i :: rest) a := by
  have hv : ∀ w', HS F w0 w' L0 → ∃ u, A = a.put o.dst u ∧ Rd1 P ops o a w' u := fun w' hw' => by
    have h := h1 w' hw'
    simp only [wpList] at h
    unfold Rd1
    split at h <;> rename_i hw
    · rcases h with h | ⟨_, _, _, hf, _⟩
      case inr => cases hf
      unfold Oper.wp at h
      cases hx : (execOp a.eval o).run P w' with
      | halt x w1 =>
        rw [hx] at h
        cases x <;> simp [Oper.upon] at h
      | ok n w1 =>
        obtain ⟨u, rfl⟩ := readK_value hk hx
        rw [hx] at h
        simp only [Oper.upon] at h
        obtain ⟨_, h3, h4⟩ := h
        subst h4
        exact ⟨u, h3.symm, by rw [if_pos hw]; exact ⟨u, rfl, rfl⟩⟩
    · exact ⟨undef, h.2.1.symm, by rw [if_neg hw]⟩
  obtain ⟨w, hw⟩ := hx
  obtain ⟨v, hA, _⟩ := hv w hw
  simp only [wpS, hi]
  rw [if_pos hk0]
  refine ⟨v, fun w' hw' => ?_, hA ▸ h2⟩
  obtain ⟨u, hu, hr⟩ := hv w' hw'
  have he : a.put o.dst u = a.put o.dst v := hu.symm.trans hA
  unfold Rd1 at *
  split at hr <;> rename_i hw
  · rw [if_pos hw]; obtain ⟨x, h3, h4⟩ := hr; exact ⟨x, h3, h4.trans he⟩
  · rw [if_neg hw]; exact hr.trans he
/-- What stands behind a soft act. -/
structure SoftP (F : Nat → Prop) (w0 : World) (K : Nat → Value → List Ent → Prop) (i : Nat) (L0 : List Ent) (t : Nat) (a : Act) (w : World) (ex : Exit) (a' : Act) (w' : World) : Prop where
  ex : ex = .normal
  defers : a'.defers = a.defers
  val : ∃ u E, a' = a.put (some t) u ∧ K i u E ∧ HS F w0 w' (E ++ L0) ∧ Below w.heap.size w w' ∧ ∀ e ∈ E, ∀ k, e.F k → w.heap.size ≤ k
theorem SoftP.mk' {i t : Nat} {L0 : List Ent} {a a' : Act} {w w' : World} (u : Value) (E : List Ent) (ha : a' = a.put (some t) u) (hK : K i u E) (hE : HS F w0 w' (E ++ L0)) (hb : Below w.heap.size w w') (hn : ∀ e ∈ E, ∀ k, e.F k → w.heap.size ≤ k) : SoftP F w0 K i L0 t a w .normal a' w' :=
  ⟨rfl, by rw [ha, put_defers], u, E, ha, hK, hE, hb, hn⟩
theorem wpS_soft {L0 σ : List Ent} {i t : Nat} {o : Oper} {rest : List Nat} {a : Act} (hi : ops[i]? = some o) (hk1 : kdOf sa hh i = 1) (hd : o.dst = some t) (ht : t < a.tmps.size) (h1 : ∀ w', HS F w0 w' L0 → wpList P ops (SoftP F w0 K i L0 t a w') [o] a w')
    (h2 : ∀ u E, K i u E → wpS P ops N F w0 sa hh K L0 (E ++ σ) rest (a.put (some t) u)) : wpS P ops N F w0 sa hh K L0 σ (i :: rest) a := by
  simp only [wpS, hi]
  rw [if_neg (by rw [hk1]; decide), if_pos hk1, hd]
  refine ⟨fun w' hw' => ?_, fun u E hK _ => h2 u E hK⟩
  refine (V1_of (K := fun a' w'' => ∃ u E, a' = a.put (some t) u ∧ K i u E ∧ HS F w0 w'' (E ++ L0) ∧ Below w'.heap.size w' w'' ∧ ∀ e ∈ E, ∀ k, e.F k → w'.heap.size ≤ k) ?_).mono fun u w'' hu => ?_
  · have h := h1 w' hw'
    have he : SoftP F w0 K i L0 t a w' = fun ex a' w'' => ex = .normal ∧ a'.defers = a.defers ∧ ∃ u E, a' = a.put (some t) u ∧ K i u E ∧ HS F w0 w'' (E ++ L0) ∧ Below w'.heap.size w' w'' ∧ ∀ e ∈ E, ∀ k, e.F k → w'.heap.size ≤ k := by
      funext ex a' w''
      exact propext ⟨fun h => ⟨h.1, h.2, h.3⟩, fun ⟨h1, h2, h3⟩ => ⟨h1, h2, h3⟩⟩
    rwa [he] at h
  · obtain ⟨u', E, he, hK, r⟩ := hu
    rw [hd] at he
    have h4 := put_same a t u ht
    rw [he, put_same a t u' ht] at h4
    injection h4 with h4
    subst h4
    exact ⟨E, hK, r⟩
/-- What stands behind a hard act. -/
structure HardP (P : Program) (ops : Array Oper) (N : Act → World → Prop) (F : Nat → Prop) (w0 : World) (sa hh : List Nat) (K : Nat → Value → List Ent → Prop) (L0 : List Ent) (rest : List Nat) (a : Act) (ex : Exit) (a' : Act) (w' : World) : Prop where
  ex : ex = .normal
  defers : a'.defers = a.defers
  val : ∃ σ', HS F w0 w' (σ' ++ L0) ∧ wpS P ops N F w0 sa hh K L0 σ' rest a'
structure TotP (P : Program) (ops : Array Oper) (N : Act → World → Prop) (F : Nat → Prop) (w0 : World) (sa hh : List Nat) (K : Nat → Value → List Ent → Prop) (rest : List Nat) (a : Act) (ex : Exit) (a' : Act) (w' : World) : Prop where
  ex : ex = .normal
  defers : a'.defers = a.defers
  val : ∃ L1 σ', HS F w0 w' (σ' ++ L1) ∧ wpS P ops N F w0 sa hh K L1 σ' rest a'
theorem HardP.mk' {L0 : List Ent} {rest : List Nat} {a a' : Act} {w' : World} (σ' : List Ent) (hd : a'.defers = a.defers) (h1 : HS F w0 w' (σ' ++ L0)) (h2 : wpS P ops N F w0 sa hh K L0 σ' rest a') : HardP P ops N F w0 sa hh K L0 rest a .normal a' w' := ⟨rfl, hd, σ', h1, h2⟩
theorem TotP.mk' {rest : List Nat} {a a' : Act} {w' : World} (L1 : List Ent) (hd : a'.defers = a.defers) (h1 : HS F w0 w' L1) (h2 : wpS P ops N F w0 sa hh K L1 [] rest a') : TotP P ops N F w0 sa hh K rest a .normal a' w' := ⟨rfl, hd, L1, [], h1, h2⟩
theorem wpS_hard {L0 σ : List Ent} {i : Nat} {o : Oper} {rest : List Nat} {a : Act} (hi : ops[i]? = some o) (hk2 : kdOf sa hh i = 2) (h1 : ∀ w, HS F w0 w (σ ++ L0) → wpList P ops (HardP P ops N F w0 sa hh K L0 rest a) [o] a w) : wpS P ops N F w0 sa hh K L0 σ (i :: rest) a := by
  simp only [wpS, hi]
  rw [if_neg (by rw [hk2]; decide), if_neg (by rw [hk2]; decide)]
  intro w hw
  refine (V1_of (K := fun a' w' => ∃ σ', HS F w0 w' (σ' ++ L0) ∧ wpS P ops N F w0 sa hh K L0 σ' rest a') ?_).mono fun u w' hu => ?_
  · have h := h1 w hw
    have he : HardP P ops N F w0 sa hh K L0 rest a = fun ex a' w' => ex = .normal ∧ a'.defers = a.defers ∧ ∃ σ', HS F w0 w' (σ' ++ L0) ∧ wpS P ops N F w0 sa hh K L0 σ' rest a' := by
      funext ex a' w''
      exact propext ⟨fun h => ⟨h.1, h.2, h.3⟩, fun ⟨h1, h2, h3⟩ => ⟨h1, h2, h3⟩⟩
    rwa [he] at h
  · split
    · obtain ⟨σ', h1, h2⟩ := hu; exact ⟨L0, σ', h1, h2⟩
    · exact hu
theorem wpS_tot {L0 σ : List Ent} {i : Nat} {o : Oper} {rest : List Nat} {a : Act} (hi : ops[i]? = some o) (hk2 : kdOf sa hh i = 2) (ht : totB ops i = true) (h1 : ∀ w, HS F w0 w (σ ++ L0) → wpList P ops (TotP P ops N F w0 sa hh K rest a) [o] a w) : wpS P ops N F w0 sa hh K L0 σ (i :: rest) a := by
  simp only [wpS, hi]
  rw [if_neg (by rw [hk2]; decide), if_neg (by rw [hk2]; decide)]
  intro w hw
  refine (V1_of (K := fun a' w' => ∃ L1 σ', HS F w0 w' (σ' ++ L1) ∧ wpS P ops N F w0 sa hh K L1 σ' rest a') ?_).mono fun u w' hu => ?_
  · have h := h1 w hw
    have he : TotP P ops N F w0 sa hh K rest a = fun ex a' w' => ex = .normal ∧ a'.defers = a.defers ∧ ∃ L1 σ', HS F w0 w' (σ' ++ L1) ∧ wpS P ops N F w0 sa hh K L1 σ' rest a' := by
      funext ex a' w''
      exact propext ⟨fun h => ⟨h.1, h.2, h.3⟩, fun ⟨h1, h2, h3⟩ => ⟨h1, h2, h3⟩⟩
    rwa [he] at h
  · rw [if_pos ht]; exact hu
theorem wpS_end {L0 σ : List Ent} {a : Act} (h : ∀ w, HS F w0 w (σ ++ L0) → N a w) : wpS P ops N F w0 sa hh K L0 σ [] a := h
end
end Go.Cour
/- The law PacePlays. -/
namespace Go.Proofs.Ytofpmigifimfoaa
open Go.RowKit Go.Cour
theorem numberN_calls (a b : Int) (w : World) (hb : 0 < b) (hb2 : b < 4611686018427387904) : Calls Try.prog 9 #[.int .i64 a, .int .i64 b] w fun e w' => ∃ k : Nat, (k : Int) < b ∧ e = .returned (.int .i64 (k : Int)) ∧ w = w' :=
  (number_calls a b w hb hb2).mono fun e w' ⟨h1, h2⟩ => ⟨(a % b).toNat, by have := Int.emod_nonneg a (show b ≠ 0 by omega); have := Int.emod_lt_of_pos a hb; omega, by rw [h1]; have := Int.emod_nonneg a (show b ≠ 0 by omega); congr 2; omega, h2.symm⟩
theorem delayOf_b (t : Int) : 1 ≤ delayOf t ∧ delayOf t ≤ 64 := by
  unfold delayOf
  split
  · omega
  · split
    · omega
    · obtain ⟨p, hp, p1, p2, _⟩ := pow_small t.toNat (by omega) (by omega)
      rw [show (t - 1).toNat = t.toNat - 1 by omega, hp]
      omega
theorem builtPace (a b : Int) : Try.prog.built 27 [(0, .int .i64 a), (1, .int .i64 b)] = some (paceC a b).toArray := by kernel_rfl
theorem builtPace16 (a b : Int) : Try.prog.built 29 [(0, .int .i64 a), (1, .int .i64 b)] = some (paceC a b).toArray := by kernel_rfl
theorem builtPace16Z : Try.prog.built 29 [] = some (paceC 0 0).toArray := by kernel_rfl
set_option maxHeartbeats 10000000 in
set_option maxRecDepth 100000 in
theorem pacePlays_calls (tries wait : Int) (ks : List Int) (A : Option Addr) (n c : Nat) {w : World} (hn : ks.length = n) (hr : Rd w A .i64 ks) :
    Calls Try.prog 3 #[.int .i64 tries, .int .i64 wait, .slice A n c] w fun e w' => e = .returned (.bool true) ∧ Below w.heap.size w w' := by
  have hS := HS.start NoF w
  have HN := hid hn
  have HR := hid hr
  clear hn hr
  by_cases hl : 100 < n
  · have hl2 : (100 : Int) < n := by omega
    go_enter Try.func3, Try.ntmps3
    go_wp2_with (first
      | (go_at_call 8; refine (first23_calls _).mono ?_; rintro e w2 ⟨rfl, hB⟩; replace hS := hS.below hB; clear hB)
      | fail)
    go_ret
    exact ⟨rfl, hS.bel⟩
  · have hl2 : ¬ (100 : Int) < n := by omega
    have hl3 : n ≤ 100 := by omega
    go_enter Try.func3, Try.ntmps3
    go_wp2_with (first
      | (go_at_call 8; refine (first23_calls _).mono ?_; rintro e w2 ⟨rfl, hB⟩; replace hS := hS.below hB; clear hB)
      | (have _ := mk0; go_at_call 9; (refine (numberN_calls _ 100 _ (by omega) (by omega)).mono ?_); rintro e wz ⟨k2, hk2, rfl, rfl⟩; have mk1 : True := trivial)
      | (go_at_call 9; (refine (numberN_calls _ 2000 _ (by omega) (by omega)).mono ?_); rintro e wz ⟨k1, hk1, rfl, rfl⟩; have mk0 : True := trivial)
      | (refine build_to rfl 27 _ rfl (paceC _ _).toArray (by rw [Array.toList_map]; exact builtPace _ _) ?_)
      | (refine build_to rfl 29 _ rfl (paceC _ _).toArray (by rw [Array.toList_map]; exact builtPace16 _ _) ?_)
      | (refine box_blk rfl 27 _ rfl _ rfl (paceC _ _) rfl ?_; intro gp w3 hga hba hBa hsa; replace hS := hS.pushBlk hBa hba hga; clear hga hba hBa hsa)
      | (refine box_blk rfl 29 _ rfl _ rfl (paceC _ _) rfl ?_; intro gx w4 hga hba hBa hsa; replace hS := hS.pushBlk hBa hba hga; clear hga hba hBa hsa)
      | fail)
    clear mk0 mk1
    obtain ⟨tr0, htr0⟩ : ∃ t : Int, (k1 : Int) - 20 = t := ⟨_, rfl⟩
    obtain ⟨wt0, hwt0⟩ : ∃ t : Int, (k2 : Int) - 3 = t := ⟨_, rfl⟩
    have htb : -20 ≤ tr0 ∧ tr0 ≤ 1980 := by omega
    have hwb : -3 ≤ wt0 ∧ wt0 ≤ 100 := by omega
    rw [htr0, hwt0] at hS ⊢
    clear htr0 hwt0
    go_loopg [9, 10] (n + 1) (fun kq v9 v10 wr => ∃ (i gx : Nat) (tr wt : Int), i ≤ n ∧ v10 = .int .i64 i ∧ v9 = .pointer (some ⟨gx, 0, none⟩) ∧ -20 ≤ tr ∧ tr ≤ 1980 + i ∧ -3 ≤ wt ∧ wt ≤ 100 ∧ Hd (kq + i = n + 1) ∧ HS NoF w wr [.blk gx 29 (paceC tr wt), .blk gp 27 (paceC tr wt)])
    case atStart => exact ⟨0, gx, tr0, wt0, Nat.zero_le _, rfl, rfl, htb.1, by omega, hwb.1, hwb.2, hid (by omega), hS⟩
    case round =>
      clear hS
      obtain ⟨i, gx, tr, wt, hi, rfl, rfl, ht1, ht2, hw1, hw2, hq, hS⟩ := hrel
      by_cases hlt : i < n
      · have hlt2 : (i : Int) < n := by omega
        obtain ⟨g1, o1, rfl⟩ := HR.out.at (by rw [HN.out]; omega)
        obtain ⟨x, hx⟩ : ∃ x, Hd (rd ks i = x) := ⟨_, hid rfl⟩
        have hcell0 := HR.out.cellAt i (by rw [HN.out]; exact hlt)
        rw [hx.out] at hcell0
        have hcw := hS.oldCell hcell0 (fun h => h)
        clear hcell0
        go_wp2_with fail
        refine (numberN_calls _ 10 _ (by omega) (by omega)).mono ?_
        rintro e wz ⟨k, hk, rfl, rfl⟩
        clear hcw
        by_cases hk0 : k = 0
        · subst hk0
          go_wp2_with fail
          refine (pFailH gp tr wt 1 hS rfl (by omega)).mono ?_
          rintro e w5 ⟨rfl, hSn⟩
          clear hS
          have hS : HS NoF w w5 [.blk gx 29 (paceC tr wt), .blk gp 27 (paceC (tr + 1) (delayOf (tr + 1)))] := hSn
          clear hSn
          go_wp2_with fail
          refine (rFailH gx tr wt 0 hS rfl (by omega)).mono ?_
          rintro e w6 ⟨rfl, hSn⟩
          clear hS
          have hdb := delayOf_b (tr + 1)
          obtain ⟨tr1, htr1⟩ : ∃ t : Int, tr + 1 = t := ⟨_, rfl⟩
          obtain ⟨wt1, hwt1⟩ : ∃ t : Int, delayOf tr1 = t := ⟨_, rfl⟩
          rw [htr1, hwt1] at hdb
          have hS : HS NoF w w6 [.blk gx 29 (paceC tr1 wt1), .blk gp 27 (paceC tr1 wt1)] := by rw [← hwt1, ← htr1]; exact hSn
          clear hSn
          rw [htr1]
          have htr2 : -20 ≤ tr1 ∧ tr1 ≤ 1980 + (i + 1) := by omega
          clear htr1 hwt1
          go_wp2_with fail
          try go_wp2_with fail
          refine wp_region_S (F := NoF) (w0 := w) (L0 := [.blk gx 29 (paceC tr1 wt1), .blk gp 27 (paceC tr1 wt1)]) [22] []
            (fun iK u E => match iK with
              | 22 => u = .bool ((wt1) == 0) ∧ E = []
              | _ => False)
            ([]) (by kernel_rfl) (by kernel_rfl) hS ?_
          show wpS _ _ _ _ _ _ _ _ _ _ [0, 1, 2, 3, 4, 5, 6, 7, 8, 9, 10, 11, 12, 13, 14, 15, 16, 17, 18, 19, 20, 21, 22, 23, 24, 25, 26, 27, 28, 29] _
          apply wpS_read (i := 0) rfl rfl ⟨_, hS⟩ rfl -- Op.move t8
          · intro w' hT'
            simp only [List.getElem_toArray, List.getElem_cons_zero, List.getElem_cons_succ]
            go_wp2_with fail
            first | exact ⟨rfl, rfl, rfl⟩ | rfl
          apply wpS_read (i := 1) rfl rfl ⟨_, hS⟩ rfl -- Op.nilCheck t64
          · intro w' hT'
            simp only [List.getElem_toArray, List.getElem_cons_zero, List.getElem_cons_succ]
            go_wp2_with fail
            first | exact ⟨rfl, rfl, rfl⟩ | rfl
          apply wpS_read (i := 2) rfl rfl ⟨_, hS⟩ rfl -- Op.fieldAddr 27 t65 0
          · intro w' hT'
            simp only [List.getElem_toArray, List.getElem_cons_zero, List.getElem_cons_succ]
            go_wp2_with fail
            first | exact ⟨rfl, rfl, rfl⟩ | rfl
          apply wpS_read (i := 3) rfl rfl ⟨_, hS⟩ rfl -- Op.load 3 t66
          · intro w' hT'
            simp only [List.getElem_toArray, List.getElem_cons_zero, List.getElem_cons_succ]
            have cx0 : w'.cell? ⟨gx, 0, none⟩ = some (.int .i64 (tr1)) := hT'.cell 0 rfl 0
            have cx1 : w'.cell? ⟨gx, 1, none⟩ = some (.int .i64 (wt1)) := hT'.cell 0 rfl 1
            have cp0 : w'.cell? ⟨gp, 0, none⟩ = some (.int .i64 (tr1)) := hT'.cell 1 rfl 0
            have cp1 : w'.cell? ⟨gp, 1, none⟩ = some (.int .i64 (wt1)) := hT'.cell 1 rfl 1
            go_wp2_with fail
            first | exact ⟨rfl, rfl, rfl⟩ | rfl
          apply wpS_read (i := 4) rfl rfl ⟨_, hS⟩ rfl -- Op.move t9
          · intro w' hT'
            simp only [List.getElem_toArray, List.getElem_cons_zero, List.getElem_cons_succ]
            go_wp2_with fail
            first | exact ⟨rfl, rfl, rfl⟩ | rfl
          apply wpS_read (i := 5) rfl rfl ⟨_, hS⟩ rfl -- Op.nilCheck t68
          · intro w' hT'
            simp only [List.getElem_toArray, List.getElem_cons_zero, List.getElem_cons_succ]
            go_wp2_with fail
            first | exact ⟨rfl, rfl, rfl⟩ | rfl
          apply wpS_read (i := 6) rfl rfl ⟨_, hS⟩ rfl -- Op.fieldAddr 29 t69 0
          · intro w' hT'
            simp only [List.getElem_toArray, List.getElem_cons_zero, List.getElem_cons_succ]
            go_wp2_with fail
            first | exact ⟨rfl, rfl, rfl⟩ | rfl
          apply wpS_read (i := 7) rfl rfl ⟨_, hS⟩ rfl -- Op.load 3 t70
          · intro w' hT'
            simp only [List.getElem_toArray, List.getElem_cons_zero, List.getElem_cons_succ]
            have cx0 : w'.cell? ⟨gx, 0, none⟩ = some (.int .i64 (tr1)) := hT'.cell 0 rfl 0
            have cx1 : w'.cell? ⟨gx, 1, none⟩ = some (.int .i64 (wt1)) := hT'.cell 0 rfl 1
            have cp0 : w'.cell? ⟨gp, 0, none⟩ = some (.int .i64 (tr1)) := hT'.cell 1 rfl 0
            have cp1 : w'.cell? ⟨gp, 1, none⟩ = some (.int .i64 (wt1)) := hT'.cell 1 rfl 1
            go_wp2_with fail
            first | exact ⟨rfl, rfl, rfl⟩ | rfl
          apply wpS_read (i := 8) rfl rfl ⟨_, hS⟩ rfl -- Op.binOp BinOp.neq 3 t67 t71 3
          · intro w' hT'
            simp only [List.getElem_toArray, List.getElem_cons_zero, List.getElem_cons_succ]
            go_wp2_with fail
            first | exact ⟨rfl, rfl, rfl⟩ | rfl
          apply wpS_read (i := 9) rfl rfl ⟨_, hS⟩ rfl -- Op.move t72
          · intro w' hT'
            simp only [List.getElem_toArray, List.getElem_cons_zero, List.getElem_cons_succ]
            go_wp2_with fail
            first | exact ⟨rfl, rfl, rfl⟩ | rfl
          apply wpS_read (i := 10) rfl rfl ⟨_, hS⟩ rfl -- Op.move t8
          · intro w' hT'
            simp only [List.getElem_toArray, List.getElem_cons_zero, List.getElem_cons_succ]
            go_wp2_with fail
            first | exact ⟨rfl, rfl, rfl⟩ | rfl
          apply wpS_read (i := 11) rfl rfl ⟨_, hS⟩ rfl -- Op.nilCheck t74
          · intro w' hT'
            simp only [List.getElem_toArray, List.getElem_cons_zero, List.getElem_cons_succ]
            go_wp2_with fail
            first | exact ⟨rfl, rfl, rfl⟩ | rfl
          apply wpS_read (i := 12) rfl rfl ⟨_, hS⟩ rfl -- Op.fieldAddr 27 t75 1
          · intro w' hT'
            simp only [List.getElem_toArray, List.getElem_cons_zero, List.getElem_cons_succ]
            go_wp2_with fail
            first | exact ⟨rfl, rfl, rfl⟩ | rfl
          apply wpS_read (i := 13) rfl rfl ⟨_, hS⟩ rfl -- Op.load 3 t76
          · intro w' hT'
            simp only [List.getElem_toArray, List.getElem_cons_zero, List.getElem_cons_succ]
            have cx0 : w'.cell? ⟨gx, 0, none⟩ = some (.int .i64 (tr1)) := hT'.cell 0 rfl 0
            have cx1 : w'.cell? ⟨gx, 1, none⟩ = some (.int .i64 (wt1)) := hT'.cell 0 rfl 1
            have cp0 : w'.cell? ⟨gp, 0, none⟩ = some (.int .i64 (tr1)) := hT'.cell 1 rfl 0
            have cp1 : w'.cell? ⟨gp, 1, none⟩ = some (.int .i64 (wt1)) := hT'.cell 1 rfl 1
            go_wp2_with fail
            first | exact ⟨rfl, rfl, rfl⟩ | rfl
          apply wpS_read (i := 14) rfl rfl ⟨_, hS⟩ rfl -- Op.move t9
          · intro w' hT'
            simp only [List.getElem_toArray, List.getElem_cons_zero, List.getElem_cons_succ]
            go_wp2_with fail
            first | exact ⟨rfl, rfl, rfl⟩ | rfl
          apply wpS_read (i := 15) rfl rfl ⟨_, hS⟩ rfl -- Op.nilCheck t78
          · intro w' hT'
            simp only [List.getElem_toArray, List.getElem_cons_zero, List.getElem_cons_succ]
            go_wp2_with fail
            first | exact ⟨rfl, rfl, rfl⟩ | rfl
          apply wpS_read (i := 16) rfl rfl ⟨_, hS⟩ rfl -- Op.fieldAddr 29 t79 1
          · intro w' hT'
            simp only [List.getElem_toArray, List.getElem_cons_zero, List.getElem_cons_succ]
            go_wp2_with fail
            first | exact ⟨rfl, rfl, rfl⟩ | rfl
          apply wpS_read (i := 17) rfl rfl ⟨_, hS⟩ rfl -- Op.load 3 t80
          · intro w' hT'
            simp only [List.getElem_toArray, List.getElem_cons_zero, List.getElem_cons_succ]
            have cx0 : w'.cell? ⟨gx, 0, none⟩ = some (.int .i64 (tr1)) := hT'.cell 0 rfl 0
            have cx1 : w'.cell? ⟨gx, 1, none⟩ = some (.int .i64 (wt1)) := hT'.cell 0 rfl 1
            have cp0 : w'.cell? ⟨gp, 0, none⟩ = some (.int .i64 (tr1)) := hT'.cell 1 rfl 0
            have cp1 : w'.cell? ⟨gp, 1, none⟩ = some (.int .i64 (wt1)) := hT'.cell 1 rfl 1
            go_wp2_with fail
            first | exact ⟨rfl, rfl, rfl⟩ | rfl
          apply wpS_read (i := 18) rfl rfl ⟨_, hS⟩ rfl -- Op.binOp BinOp.neq 3 t77 t81 3
          · intro w' hT'
            simp only [List.getElem_toArray, List.getElem_cons_zero, List.getElem_cons_succ]
            go_wp2_with fail
            first | exact ⟨rfl, rfl, rfl⟩ | rfl
          apply wpS_read (i := 19) rfl rfl ⟨_, hS⟩ rfl -- Op.pick t73 (const (Value.bool true)) t82
          · intro w' hT'
            simp only [List.getElem_toArray, List.getElem_cons_zero, List.getElem_cons_succ]
            go_wp2_with fail
            first | exact ⟨rfl, rfl, rfl⟩ | rfl
          apply wpS_read (i := 20) rfl rfl ⟨_, hS⟩ rfl -- Op.move t83
          · intro w' hT'
            simp only [List.getElem_toArray, List.getElem_cons_zero, List.getElem_cons_succ]
            go_wp2_with fail
            first | exact ⟨rfl, rfl, rfl⟩ | rfl
          apply wpS_read (i := 21) rfl rfl ⟨_, hS⟩ rfl -- Op.move t8
          · intro w' hT'
            simp only [List.getElem_toArray, List.getElem_cons_zero, List.getElem_cons_succ]
            go_wp2_with fail
            first | exact ⟨rfl, rfl, rfl⟩ | rfl
          refine wpS_soft (i := 22) rfl rfl rfl (Nat.le_of_ble_eq_true rfl) ?_ ?_ -- Op.call { value (Operand.func 15), args := #[t85], argTypes := #[25]
          · intro w' hT
            simp only [List.getElem_toArray, List.getElem_cons_zero, List.getElem_cons_succ]
            go_wp2_with (first
              | (go_at_call 15; refine (pReadyH gp (tr1) (wt1) 1 hT rfl).mono ?_; rintro e wq ⟨rfl, rfl⟩)
              | fail)
            exact SoftP.mk' (.bool ((wt1) == 0)) ([]) rfl (⟨rfl, rfl⟩) (hT) (Below.refl _ _) (fun _ h => by cases h)
          intro u22 E22 hK22
          obtain ⟨rfl, rfl⟩ := hK22
          simp only [Act.put, List.setIfInBounds_toArray, List.set_cons_zero, List.set_cons_succ]
          apply wpS_read (i := 23) rfl rfl ⟨_, hS⟩ rfl -- Op.move t9
          · intro w' hT'
            simp only [List.getElem_toArray, List.getElem_cons_zero, List.getElem_cons_succ]
            go_wp2_with fail
            first | exact ⟨rfl, rfl, rfl⟩ | rfl
          apply wpS_read (i := 24) rfl rfl ⟨_, hS⟩ rfl -- Op.nilCheck t87
          · intro w' hT'
            simp only [List.getElem_toArray, List.getElem_cons_zero, List.getElem_cons_succ]
            go_wp2_with fail
            first | exact ⟨rfl, rfl, rfl⟩ | rfl
          apply wpS_read (i := 25) rfl rfl ⟨_, hS⟩ rfl -- Op.fieldAddr 29 t88 1
          · intro w' hT'
            simp only [List.getElem_toArray, List.getElem_cons_zero, List.getElem_cons_succ]
            go_wp2_with fail
            first | exact ⟨rfl, rfl, rfl⟩ | rfl
          apply wpS_read (i := 26) rfl rfl ⟨_, hS⟩ rfl -- Op.load 3 t89
          · intro w' hT'
            simp only [List.getElem_toArray, List.getElem_cons_zero, List.getElem_cons_succ]
            have cx0 : w'.cell? ⟨gx, 0, none⟩ = some (.int .i64 (tr1)) := hT'.cell 0 rfl 0
            have cx1 : w'.cell? ⟨gx, 1, none⟩ = some (.int .i64 (wt1)) := hT'.cell 0 rfl 1
            have cp0 : w'.cell? ⟨gp, 0, none⟩ = some (.int .i64 (tr1)) := hT'.cell 1 rfl 0
            have cp1 : w'.cell? ⟨gp, 1, none⟩ = some (.int .i64 (wt1)) := hT'.cell 1 rfl 1
            go_wp2_with fail
            first | exact ⟨rfl, rfl, rfl⟩ | rfl
          apply wpS_read (i := 27) rfl rfl ⟨_, hS⟩ rfl -- Op.binOp BinOp.eql 3 t90 (const (0:i64)) 3
          · intro w' hT'
            simp only [List.getElem_toArray, List.getElem_cons_zero, List.getElem_cons_succ]
            go_wp2_with fail
            first | exact ⟨rfl, rfl, rfl⟩ | rfl
          apply wpS_read (i := 28) rfl rfl ⟨_, hS⟩ rfl -- Op.binOp BinOp.neq 4 t86 t91 4
          · intro w' hT'
            simp only [List.getElem_toArray, List.getElem_cons_zero, List.getElem_cons_succ]
            go_wp2_with fail
            first | exact ⟨rfl, rfl, rfl⟩ | rfl
          apply wpS_read (i := 29) rfl rfl ⟨_, hS⟩ rfl -- Op.pick t84 (const (Value.bool true)) t92
          · intro w' hT'
            simp only [List.getElem_toArray, List.getElem_cons_zero, List.getElem_cons_succ]
            go_wp2_with fail
            first | exact ⟨rfl, rfl, rfl⟩ | rfl
          refine wpS_end ?_
          intro wv hT
          try dsimp only
          clear hS
          have hS : HS NoF w wv [.blk gx 29 (paceC tr1 wt1), .blk gp 27 (paceC tr1 wt1)] := hT
          clear hT
          go_wp2_with fail
          go_roundg (gk - 1)
          case measure => have := hq.out; omega
          case rel => exact ⟨i + 1, gx, tr1, wt1, by omega, by go_num, rfl, by omega, by omega, by omega, by omega, hid (by have := hq.out; omega), hS⟩
        · by_cases hk1 : k = 1
          · subst hk1
            go_wp2_with fail
            refine (pGoodH gp tr wt 1 hS rfl).mono ?_
            rintro e w5 ⟨rfl, hSn⟩
            clear hS
            have hS : HS NoF w w5 [.blk gp 27 (paceC 0 0)] := hSn.erase 0
            clear hSn
            go_wp2_with (first
              | (refine build_to rfl 29 _ rfl (paceC 0 0).toArray (by rw [Array.toList_map]; exact builtPace16Z) ?_)
              | (refine box_blk rfl 29 _ rfl _ rfl (paceC _ _) rfl ?_; intro gy w6 hga hba hBa hsa; replace hS := hS.pushBlk hBa hba hga; clear hga hba hBa hsa)
              | fail)
            replace hS : HS NoF w w6 [.blk gy 29 (paceC 0 0), .blk gp 27 (paceC 0 0)] := hS
            try go_wp2_with fail
            refine wp_region_S (F := NoF) (w0 := w) (L0 := [.blk gy 29 (paceC 0 0), .blk gp 27 (paceC 0 0)]) [22] []
              (fun iK u E => match iK with
                | 22 => u = .bool ((0) == 0) ∧ E = []
                | _ => False)
              ([]) (by kernel_rfl) (by kernel_rfl) hS ?_
            show wpS _ _ _ _ _ _ _ _ _ _ [0, 1, 2, 3, 4, 5, 6, 7, 8, 9, 10, 11, 12, 13, 14, 15, 16, 17, 18, 19, 20, 21, 22, 23, 24, 25, 26, 27, 28, 29] _
            apply wpS_read (i := 0) rfl rfl ⟨_, hS⟩ rfl -- Op.move t8
            · intro w' hT'
              simp only [List.getElem_toArray, List.getElem_cons_zero, List.getElem_cons_succ]
              go_wp2_with fail
              first | exact ⟨rfl, rfl, rfl⟩ | rfl
            apply wpS_read (i := 1) rfl rfl ⟨_, hS⟩ rfl -- Op.nilCheck t64
            · intro w' hT'
              simp only [List.getElem_toArray, List.getElem_cons_zero, List.getElem_cons_succ]
              go_wp2_with fail
              first | exact ⟨rfl, rfl, rfl⟩ | rfl
            apply wpS_read (i := 2) rfl rfl ⟨_, hS⟩ rfl -- Op.fieldAddr 27 t65 0
            · intro w' hT'
              simp only [List.getElem_toArray, List.getElem_cons_zero, List.getElem_cons_succ]
              go_wp2_with fail
              first | exact ⟨rfl, rfl, rfl⟩ | rfl
            apply wpS_read (i := 3) rfl rfl ⟨_, hS⟩ rfl -- Op.load 3 t66
            · intro w' hT'
              simp only [List.getElem_toArray, List.getElem_cons_zero, List.getElem_cons_succ]
              have cx0 : w'.cell? ⟨gy, 0, none⟩ = some (.int .i64 (0)) := hT'.cell 0 rfl 0
              have cx1 : w'.cell? ⟨gy, 1, none⟩ = some (.int .i64 (0)) := hT'.cell 0 rfl 1
              have cp0 : w'.cell? ⟨gp, 0, none⟩ = some (.int .i64 (0)) := hT'.cell 1 rfl 0
              have cp1 : w'.cell? ⟨gp, 1, none⟩ = some (.int .i64 (0)) := hT'.cell 1 rfl 1
              go_wp2_with fail
              first | exact ⟨rfl, rfl, rfl⟩ | rfl
            apply wpS_read (i := 4) rfl rfl ⟨_, hS⟩ rfl -- Op.move t9
            · intro w' hT'
              simp only [List.getElem_toArray, List.getElem_cons_zero, List.getElem_cons_succ]
              go_wp2_with fail
              first | exact ⟨rfl, rfl, rfl⟩ | rfl
            apply wpS_read (i := 5) rfl rfl ⟨_, hS⟩ rfl -- Op.nilCheck t68
            · intro w' hT'
              simp only [List.getElem_toArray, List.getElem_cons_zero, List.getElem_cons_succ]
              go_wp2_with fail
              first | exact ⟨rfl, rfl, rfl⟩ | rfl
            apply wpS_read (i := 6) rfl rfl ⟨_, hS⟩ rfl -- Op.fieldAddr 29 t69 0
            · intro w' hT'
              simp only [List.getElem_toArray, List.getElem_cons_zero, List.getElem_cons_succ]
              go_wp2_with fail
              first | exact ⟨rfl, rfl, rfl⟩ | rfl
            apply wpS_read (i := 7) rfl rfl ⟨_, hS⟩ rfl -- Op.load 3 t70
            · intro w' hT'
              simp only [List.getElem_toArray, List.getElem_cons_zero, List.getElem_cons_succ]
              have cx0 : w'.cell? ⟨gy, 0, none⟩ = some (.int .i64 (0)) := hT'.cell 0 rfl 0
              have cx1 : w'.cell? ⟨gy, 1, none⟩ = some (.int .i64 (0)) := hT'.cell 0 rfl 1
              have cp0 : w'.cell? ⟨gp, 0, none⟩ = some (.int .i64 (0)) := hT'.cell 1 rfl 0
              have cp1 : w'.cell? ⟨gp, 1, none⟩ = some (.int .i64 (0)) := hT'.cell 1 rfl 1
              go_wp2_with fail
              first | exact ⟨rfl, rfl, rfl⟩ | rfl
            apply wpS_read (i := 8) rfl rfl ⟨_, hS⟩ rfl -- Op.binOp BinOp.neq 3 t67 t71 3
            · intro w' hT'
              simp only [List.getElem_toArray, List.getElem_cons_zero, List.getElem_cons_succ]
              go_wp2_with fail
              first | exact ⟨rfl, rfl, rfl⟩ | rfl
            apply wpS_read (i := 9) rfl rfl ⟨_, hS⟩ rfl -- Op.move t72
            · intro w' hT'
              simp only [List.getElem_toArray, List.getElem_cons_zero, List.getElem_cons_succ]
              go_wp2_with fail
              first | exact ⟨rfl, rfl, rfl⟩ | rfl
            apply wpS_read (i := 10) rfl rfl ⟨_, hS⟩ rfl -- Op.move t8
            · intro w' hT'
              simp only [List.getElem_toArray, List.getElem_cons_zero, List.getElem_cons_succ]
              go_wp2_with fail
              first | exact ⟨rfl, rfl, rfl⟩ | rfl
            apply wpS_read (i := 11) rfl rfl ⟨_, hS⟩ rfl -- Op.nilCheck t74
            · intro w' hT'
              simp only [List.getElem_toArray, List.getElem_cons_zero, List.getElem_cons_succ]
              go_wp2_with fail
              first | exact ⟨rfl, rfl, rfl⟩ | rfl
            apply wpS_read (i := 12) rfl rfl ⟨_, hS⟩ rfl -- Op.fieldAddr 27 t75 1
            · intro w' hT'
              simp only [List.getElem_toArray, List.getElem_cons_zero, List.getElem_cons_succ]
              go_wp2_with fail
              first | exact ⟨rfl, rfl, rfl⟩ | rfl
            apply wpS_read (i := 13) rfl rfl ⟨_, hS⟩ rfl -- Op.load 3 t76
            · intro w' hT'
              simp only [List.getElem_toArray, List.getElem_cons_zero, List.getElem_cons_succ]
              have cx0 : w'.cell? ⟨gy, 0, none⟩ = some (.int .i64 (0)) := hT'.cell 0 rfl 0
              have cx1 : w'.cell? ⟨gy, 1, none⟩ = some (.int .i64 (0)) := hT'.cell 0 rfl 1
              have cp0 : w'.cell? ⟨gp, 0, none⟩ = some (.int .i64 (0)) := hT'.cell 1 rfl 0
              have cp1 : w'.cell? ⟨gp, 1, none⟩ = some (.int .i64 (0)) := hT'.cell 1 rfl 1
              go_wp2_with fail
              first | exact ⟨rfl, rfl, rfl⟩ | rfl
            apply wpS_read (i := 14) rfl rfl ⟨_, hS⟩ rfl -- Op.move t9
            · intro w' hT'
              simp only [List.getElem_toArray, List.getElem_cons_zero, List.getElem_cons_succ]
              go_wp2_with fail
              first | exact ⟨rfl, rfl, rfl⟩ | rfl
            apply wpS_read (i := 15) rfl rfl ⟨_, hS⟩ rfl -- Op.nilCheck t78
            · intro w' hT'
              simp only [List.getElem_toArray, List.getElem_cons_zero, List.getElem_cons_succ]
              go_wp2_with fail
              first | exact ⟨rfl, rfl, rfl⟩ | rfl
            apply wpS_read (i := 16) rfl rfl ⟨_, hS⟩ rfl -- Op.fieldAddr 29 t79 1
            · intro w' hT'
              simp only [List.getElem_toArray, List.getElem_cons_zero, List.getElem_cons_succ]
              go_wp2_with fail
              first | exact ⟨rfl, rfl, rfl⟩ | rfl
            apply wpS_read (i := 17) rfl rfl ⟨_, hS⟩ rfl -- Op.load 3 t80
            · intro w' hT'
              simp only [List.getElem_toArray, List.getElem_cons_zero, List.getElem_cons_succ]
              have cx0 : w'.cell? ⟨gy, 0, none⟩ = some (.int .i64 (0)) := hT'.cell 0 rfl 0
              have cx1 : w'.cell? ⟨gy, 1, none⟩ = some (.int .i64 (0)) := hT'.cell 0 rfl 1
              have cp0 : w'.cell? ⟨gp, 0, none⟩ = some (.int .i64 (0)) := hT'.cell 1 rfl 0
              have cp1 : w'.cell? ⟨gp, 1, none⟩ = some (.int .i64 (0)) := hT'.cell 1 rfl 1
              go_wp2_with fail
              first | exact ⟨rfl, rfl, rfl⟩ | rfl
            apply wpS_read (i := 18) rfl rfl ⟨_, hS⟩ rfl -- Op.binOp BinOp.neq 3 t77 t81 3
            · intro w' hT'
              simp only [List.getElem_toArray, List.getElem_cons_zero, List.getElem_cons_succ]
              go_wp2_with fail
              first | exact ⟨rfl, rfl, rfl⟩ | rfl
            apply wpS_read (i := 19) rfl rfl ⟨_, hS⟩ rfl -- Op.pick t73 (const (Value.bool true)) t82
            · intro w' hT'
              simp only [List.getElem_toArray, List.getElem_cons_zero, List.getElem_cons_succ]
              go_wp2_with fail
              first | exact ⟨rfl, rfl, rfl⟩ | rfl
            apply wpS_read (i := 20) rfl rfl ⟨_, hS⟩ rfl -- Op.move t83
            · intro w' hT'
              simp only [List.getElem_toArray, List.getElem_cons_zero, List.getElem_cons_succ]
              go_wp2_with fail
              first | exact ⟨rfl, rfl, rfl⟩ | rfl
            apply wpS_read (i := 21) rfl rfl ⟨_, hS⟩ rfl -- Op.move t8
            · intro w' hT'
              simp only [List.getElem_toArray, List.getElem_cons_zero, List.getElem_cons_succ]
              go_wp2_with fail
              first | exact ⟨rfl, rfl, rfl⟩ | rfl
            refine wpS_soft (i := 22) rfl rfl rfl (Nat.le_of_ble_eq_true rfl) ?_ ?_ -- Op.call { value (Operand.func 15), args := #[t85], argTypes := #[25]
            · intro w' hT
              simp only [List.getElem_toArray, List.getElem_cons_zero, List.getElem_cons_succ]
              go_wp2_with (first
                | (go_at_call 15; refine (pReadyH gp (0) (0) 1 hT rfl).mono ?_; rintro e wq ⟨rfl, rfl⟩)
                | fail)
              exact SoftP.mk' (.bool ((0) == 0)) ([]) rfl (⟨rfl, rfl⟩) (hT) (Below.refl _ _) (fun _ h => by cases h)
            intro u22 E22 hK22
            obtain ⟨rfl, rfl⟩ := hK22
            simp only [Act.put, List.setIfInBounds_toArray, List.set_cons_zero, List.set_cons_succ]
            apply wpS_read (i := 23) rfl rfl ⟨_, hS⟩ rfl -- Op.move t9
            · intro w' hT'
              simp only [List.getElem_toArray, List.getElem_cons_zero, List.getElem_cons_succ]
              go_wp2_with fail
              first | exact ⟨rfl, rfl, rfl⟩ | rfl
            apply wpS_read (i := 24) rfl rfl ⟨_, hS⟩ rfl -- Op.nilCheck t87
            · intro w' hT'
              simp only [List.getElem_toArray, List.getElem_cons_zero, List.getElem_cons_succ]
              go_wp2_with fail
              first | exact ⟨rfl, rfl, rfl⟩ | rfl
            apply wpS_read (i := 25) rfl rfl ⟨_, hS⟩ rfl -- Op.fieldAddr 29 t88 1
            · intro w' hT'
              simp only [List.getElem_toArray, List.getElem_cons_zero, List.getElem_cons_succ]
              go_wp2_with fail
              first | exact ⟨rfl, rfl, rfl⟩ | rfl
            apply wpS_read (i := 26) rfl rfl ⟨_, hS⟩ rfl -- Op.load 3 t89
            · intro w' hT'
              simp only [List.getElem_toArray, List.getElem_cons_zero, List.getElem_cons_succ]
              have cx0 : w'.cell? ⟨gy, 0, none⟩ = some (.int .i64 (0)) := hT'.cell 0 rfl 0
              have cx1 : w'.cell? ⟨gy, 1, none⟩ = some (.int .i64 (0)) := hT'.cell 0 rfl 1
              have cp0 : w'.cell? ⟨gp, 0, none⟩ = some (.int .i64 (0)) := hT'.cell 1 rfl 0
              have cp1 : w'.cell? ⟨gp, 1, none⟩ = some (.int .i64 (0)) := hT'.cell 1 rfl 1
              go_wp2_with fail
              first | exact ⟨rfl, rfl, rfl⟩ | rfl
            apply wpS_read (i := 27) rfl rfl ⟨_, hS⟩ rfl -- Op.binOp BinOp.eql 3 t90 (const (0:i64)) 3
            · intro w' hT'
              simp only [List.getElem_toArray, List.getElem_cons_zero, List.getElem_cons_succ]
              go_wp2_with fail
              first | exact ⟨rfl, rfl, rfl⟩ | rfl
            apply wpS_read (i := 28) rfl rfl ⟨_, hS⟩ rfl -- Op.binOp BinOp.neq 4 t86 t91 4
            · intro w' hT'
              simp only [List.getElem_toArray, List.getElem_cons_zero, List.getElem_cons_succ]
              go_wp2_with fail
              first | exact ⟨rfl, rfl, rfl⟩ | rfl
            apply wpS_read (i := 29) rfl rfl ⟨_, hS⟩ rfl -- Op.pick t84 (const (Value.bool true)) t92
            · intro w' hT'
              simp only [List.getElem_toArray, List.getElem_cons_zero, List.getElem_cons_succ]
              go_wp2_with fail
              first | exact ⟨rfl, rfl, rfl⟩ | rfl
            refine wpS_end ?_
            intro wv hT
            try dsimp only
            clear hS
            have hS : HS NoF w wv [.blk gy 29 (paceC 0 0), .blk gp 27 (paceC 0 0)] := hT
            clear hT
            go_wp2_with fail
            go_roundg (gk - 1)
            case measure => have := hq.out; omega
            case rel => exact ⟨i + 1, gy, 0, 0, by omega, by go_num, rfl, by omega, by omega, by omega, by omega, hid (by have := hq.out; omega), hS⟩
          · have hk2 : ¬ (k : Int) = 0 := by omega
            have hk3 : ¬ (k : Int) = 1 := by omega
            go_wp2_with fail
            refine (pTickH gp tr wt 1 hS rfl (by omega)).mono ?_
            rintro e w5 ⟨rfl, hSn⟩
            clear hS
            have hS : HS NoF w w5 [.blk gx 29 (paceC tr wt), .blk gp 27 (paceC tr (if 0 < wt then wt - 1 else wt))] := hSn
            clear hSn
            go_wp2_with fail
            refine (rTickH gx tr wt 0 hS rfl (by omega)).mono ?_
            rintro e w6 ⟨rfl, hSn⟩
            clear hS
            obtain ⟨wt1, hwt1⟩ : ∃ t : Int, (if 0 < wt then wt - 1 else wt) = t := ⟨_, rfl⟩
            have hwb1 : -3 ≤ wt1 ∧ wt1 ≤ 100 := by rw [← hwt1]; split <;> omega
            rw [hwt1] at hSn
            have hS : HS NoF w w6 [.blk gx 29 (paceC tr wt1), .blk gp 27 (paceC tr wt1)] := hSn
            clear hSn hwt1
            go_wp2_with fail
            try go_wp2_with fail
            refine wp_region_S (F := NoF) (w0 := w) (L0 := [.blk gx 29 (paceC tr wt1), .blk gp 27 (paceC tr wt1)]) [22] []
              (fun iK u E => match iK with
                | 22 => u = .bool ((wt1) == 0) ∧ E = []
                | _ => False)
              ([]) (by kernel_rfl) (by kernel_rfl) hS ?_
            show wpS _ _ _ _ _ _ _ _ _ _ [0, 1, 2, 3, 4, 5, 6, 7, 8, 9, 10, 11, 12, 13, 14, 15, 16, 17, 18, 19, 20, 21, 22, 23, 24, 25, 26, 27, 28, 29] _
            apply wpS_read (i := 0) rfl rfl ⟨_, hS⟩ rfl -- Op.move t8
            · intro w' hT'
              simp only [List.getElem_toArray, List.getElem_cons_zero, List.getElem_cons_succ]
              go_wp2_with fail
              first | exact ⟨rfl, rfl, rfl⟩ | rfl
            apply wpS_read (i := 1) rfl rfl ⟨_, hS⟩ rfl -- Op.nilCheck t64
            · intro w' hT'
              simp only [List.getElem_toArray, List.getElem_cons_zero, List.getElem_cons_succ]
              go_wp2_with fail
              first | exact ⟨rfl, rfl, rfl⟩ | rfl
            apply wpS_read (i := 2) rfl rfl ⟨_, hS⟩ rfl -- Op.fieldAddr 27 t65 0
            · intro w' hT'
              simp only [List.getElem_toArray, List.getElem_cons_zero, List.getElem_cons_succ]
              go_wp2_with fail
              first | exact ⟨rfl, rfl, rfl⟩ | rfl
            apply wpS_read (i := 3) rfl rfl ⟨_, hS⟩ rfl -- Op.load 3 t66
            · intro w' hT'
              simp only [List.getElem_toArray, List.getElem_cons_zero, List.getElem_cons_succ]
              have cx0 : w'.cell? ⟨gx, 0, none⟩ = some (.int .i64 (tr)) := hT'.cell 0 rfl 0
              have cx1 : w'.cell? ⟨gx, 1, none⟩ = some (.int .i64 (wt1)) := hT'.cell 0 rfl 1
              have cp0 : w'.cell? ⟨gp, 0, none⟩ = some (.int .i64 (tr)) := hT'.cell 1 rfl 0
              have cp1 : w'.cell? ⟨gp, 1, none⟩ = some (.int .i64 (wt1)) := hT'.cell 1 rfl 1
              go_wp2_with fail
              first | exact ⟨rfl, rfl, rfl⟩ | rfl
            apply wpS_read (i := 4) rfl rfl ⟨_, hS⟩ rfl -- Op.move t9
            · intro w' hT'
              simp only [List.getElem_toArray, List.getElem_cons_zero, List.getElem_cons_succ]
              go_wp2_with fail
              first | exact ⟨rfl, rfl, rfl⟩ | rfl
            apply wpS_read (i := 5) rfl rfl ⟨_, hS⟩ rfl -- Op.nilCheck t68
            · intro w' hT'
              simp only [List.getElem_toArray, List.getElem_cons_zero, List.getElem_cons_succ]
              go_wp2_with fail
              first | exact ⟨rfl, rfl, rfl⟩ | rfl
            apply wpS_read (i := 6) rfl rfl ⟨_, hS⟩ rfl -- Op.fieldAddr 29 t69 0
            · intro w' hT'
              simp only [List.getElem_toArray, List.getElem_cons_zero, List.getElem_cons_succ]
              go_wp2_with fail
              first | exact ⟨rfl, rfl, rfl⟩ | rfl
            apply wpS_read (i := 7) rfl rfl ⟨_, hS⟩ rfl -- Op.load 3 t70
            · intro w' hT'
              simp only [List.getElem_toArray, List.getElem_cons_zero, List.getElem_cons_succ]
              have cx0 : w'.cell? ⟨gx, 0, none⟩ = some (.int .i64 (tr)) := hT'.cell 0 rfl 0
              have cx1 : w'.cell? ⟨gx, 1, none⟩ = some (.int .i64 (wt1)) := hT'.cell 0 rfl 1
              have cp0 : w'.cell? ⟨gp, 0, none⟩ = some (.int .i64 (tr)) := hT'.cell 1 rfl 0
              have cp1 : w'.cell? ⟨gp, 1, none⟩ = some (.int .i64 (wt1)) := hT'.cell 1 rfl 1
              go_wp2_with fail
              first | exact ⟨rfl, rfl, rfl⟩ | rfl
            apply wpS_read (i := 8) rfl rfl ⟨_, hS⟩ rfl -- Op.binOp BinOp.neq 3 t67 t71 3
            · intro w' hT'
              simp only [List.getElem_toArray, List.getElem_cons_zero, List.getElem_cons_succ]
              go_wp2_with fail
              first | exact ⟨rfl, rfl, rfl⟩ | rfl
            apply wpS_read (i := 9) rfl rfl ⟨_, hS⟩ rfl -- Op.move t72
            · intro w' hT'
              simp only [List.getElem_toArray, List.getElem_cons_zero, List.getElem_cons_succ]
              go_wp2_with fail
              first | exact ⟨rfl, rfl, rfl⟩ | rfl
            apply wpS_read (i := 10) rfl rfl ⟨_, hS⟩ rfl -- Op.move t8
            · intro w' hT'
              simp only [List.getElem_toArray, List.getElem_cons_zero, List.getElem_cons_succ]
              go_wp2_with fail
              first | exact ⟨rfl, rfl, rfl⟩ | rfl
            apply wpS_read (i := 11) rfl rfl ⟨_, hS⟩ rfl -- Op.nilCheck t74
            · intro w' hT'
              simp only [List.getElem_toArray, List.getElem_cons_zero, List.getElem_cons_succ]
              go_wp2_with fail
              first | exact ⟨rfl, rfl, rfl⟩ | rfl
            apply wpS_read (i := 12) rfl rfl ⟨_, hS⟩ rfl -- Op.fieldAddr 27 t75 1
            · intro w' hT'
              simp only [List.getElem_toArray, List.getElem_cons_zero, List.getElem_cons_succ]
              go_wp2_with fail
              first | exact ⟨rfl, rfl, rfl⟩ | rfl
            apply wpS_read (i := 13) rfl rfl ⟨_, hS⟩ rfl -- Op.load 3 t76
            · intro w' hT'
              simp only [List.getElem_toArray, List.getElem_cons_zero, List.getElem_cons_succ]
              have cx0 : w'.cell? ⟨gx, 0, none⟩ = some (.int .i64 (tr)) := hT'.cell 0 rfl 0
              have cx1 : w'.cell? ⟨gx, 1, none⟩ = some (.int .i64 (wt1)) := hT'.cell 0 rfl 1
              have cp0 : w'.cell? ⟨gp, 0, none⟩ = some (.int .i64 (tr)) := hT'.cell 1 rfl 0
              have cp1 : w'.cell? ⟨gp, 1, none⟩ = some (.int .i64 (wt1)) := hT'.cell 1 rfl 1
              go_wp2_with fail
              first | exact ⟨rfl, rfl, rfl⟩ | rfl
            apply wpS_read (i := 14) rfl rfl ⟨_, hS⟩ rfl -- Op.move t9
            · intro w' hT'
              simp only [List.getElem_toArray, List.getElem_cons_zero, List.getElem_cons_succ]
              go_wp2_with fail
              first | exact ⟨rfl, rfl, rfl⟩ | rfl
            apply wpS_read (i := 15) rfl rfl ⟨_, hS⟩ rfl -- Op.nilCheck t78
            · intro w' hT'
              simp only [List.getElem_toArray, List.getElem_cons_zero, List.getElem_cons_succ]
              go_wp2_with fail
              first | exact ⟨rfl, rfl, rfl⟩ | rfl
            apply wpS_read (i := 16) rfl rfl ⟨_, hS⟩ rfl -- Op.fieldAddr 29 t79 1
            · intro w' hT'
              simp only [List.getElem_toArray, List.getElem_cons_zero, List.getElem_cons_succ]
              go_wp2_with fail
              first | exact ⟨rfl, rfl, rfl⟩ | rfl
            apply wpS_read (i := 17) rfl rfl ⟨_, hS⟩ rfl -- Op.load 3 t80
            · intro w' hT'
              simp only [List.getElem_toArray, List.getElem_cons_zero, List.getElem_cons_succ]
              have cx0 : w'.cell? ⟨gx, 0, none⟩ = some (.int .i64 (tr)) := hT'.cell 0 rfl 0
              have cx1 : w'.cell? ⟨gx, 1, none⟩ = some (.int .i64 (wt1)) := hT'.cell 0 rfl 1
              have cp0 : w'.cell? ⟨gp, 0, none⟩ = some (.int .i64 (tr)) := hT'.cell 1 rfl 0
              have cp1 : w'.cell? ⟨gp, 1, none⟩ = some (.int .i64 (wt1)) := hT'.cell 1 rfl 1
              go_wp2_with fail
              first | exact ⟨rfl, rfl, rfl⟩ | rfl
            apply wpS_read (i := 18) rfl rfl ⟨_, hS⟩ rfl -- Op.binOp BinOp.neq 3 t77 t81 3
            · intro w' hT'
              simp only [List.getElem_toArray, List.getElem_cons_zero, List.getElem_cons_succ]
              go_wp2_with fail
              first | exact ⟨rfl, rfl, rfl⟩ | rfl
            apply wpS_read (i := 19) rfl rfl ⟨_, hS⟩ rfl -- Op.pick t73 (const (Value.bool true)) t82
            · intro w' hT'
              simp only [List.getElem_toArray, List.getElem_cons_zero, List.getElem_cons_succ]
              go_wp2_with fail
              first | exact ⟨rfl, rfl, rfl⟩ | rfl
            apply wpS_read (i := 20) rfl rfl ⟨_, hS⟩ rfl -- Op.move t83
            · intro w' hT'
              simp only [List.getElem_toArray, List.getElem_cons_zero, List.getElem_cons_succ]
              go_wp2_with fail
              first | exact ⟨rfl, rfl, rfl⟩ | rfl
            apply wpS_read (i := 21) rfl rfl ⟨_, hS⟩ rfl -- Op.move t8
            · intro w' hT'
              simp only [List.getElem_toArray, List.getElem_cons_zero, List.getElem_cons_succ]
              go_wp2_with fail
              first | exact ⟨rfl, rfl, rfl⟩ | rfl
            refine wpS_soft (i := 22) rfl rfl rfl (Nat.le_of_ble_eq_true rfl) ?_ ?_ -- Op.call { value (Operand.func 15), args := #[t85], argTypes := #[25]
            · intro w' hT
              simp only [List.getElem_toArray, List.getElem_cons_zero, List.getElem_cons_succ]
              go_wp2_with (first
                | (go_at_call 15; refine (pReadyH gp (tr) (wt1) 1 hT rfl).mono ?_; rintro e wq ⟨rfl, rfl⟩)
                | fail)
              exact SoftP.mk' (.bool ((wt1) == 0)) ([]) rfl (⟨rfl, rfl⟩) (hT) (Below.refl _ _) (fun _ h => by cases h)
            intro u22 E22 hK22
            obtain ⟨rfl, rfl⟩ := hK22
            simp only [Act.put, List.setIfInBounds_toArray, List.set_cons_zero, List.set_cons_succ]
            apply wpS_read (i := 23) rfl rfl ⟨_, hS⟩ rfl -- Op.move t9
            · intro w' hT'
              simp only [List.getElem_toArray, List.getElem_cons_zero, List.getElem_cons_succ]
              go_wp2_with fail
              first | exact ⟨rfl, rfl, rfl⟩ | rfl
            apply wpS_read (i := 24) rfl rfl ⟨_, hS⟩ rfl -- Op.nilCheck t87
            · intro w' hT'
              simp only [List.getElem_toArray, List.getElem_cons_zero, List.getElem_cons_succ]
              go_wp2_with fail
              first | exact ⟨rfl, rfl, rfl⟩ | rfl
            apply wpS_read (i := 25) rfl rfl ⟨_, hS⟩ rfl -- Op.fieldAddr 29 t88 1
            · intro w' hT'
              simp only [List.getElem_toArray, List.getElem_cons_zero, List.getElem_cons_succ]
              go_wp2_with fail
              first | exact ⟨rfl, rfl, rfl⟩ | rfl
            apply wpS_read (i := 26) rfl rfl ⟨_, hS⟩ rfl -- Op.load 3 t89
            · intro w' hT'
              simp only [List.getElem_toArray, List.getElem_cons_zero, List.getElem_cons_succ]
              have cx0 : w'.cell? ⟨gx, 0, none⟩ = some (.int .i64 (tr)) := hT'.cell 0 rfl 0
              have cx1 : w'.cell? ⟨gx, 1, none⟩ = some (.int .i64 (wt1)) := hT'.cell 0 rfl 1
              have cp0 : w'.cell? ⟨gp, 0, none⟩ = some (.int .i64 (tr)) := hT'.cell 1 rfl 0
              have cp1 : w'.cell? ⟨gp, 1, none⟩ = some (.int .i64 (wt1)) := hT'.cell 1 rfl 1
              go_wp2_with fail
              first | exact ⟨rfl, rfl, rfl⟩ | rfl
            apply wpS_read (i := 27) rfl rfl ⟨_, hS⟩ rfl -- Op.binOp BinOp.eql 3 t90 (const (0:i64)) 3
            · intro w' hT'
              simp only [List.getElem_toArray, List.getElem_cons_zero, List.getElem_cons_succ]
              go_wp2_with fail
              first | exact ⟨rfl, rfl, rfl⟩ | rfl
            apply wpS_read (i := 28) rfl rfl ⟨_, hS⟩ rfl -- Op.binOp BinOp.neq 4 t86 t91 4
            · intro w' hT'
              simp only [List.getElem_toArray, List.getElem_cons_zero, List.getElem_cons_succ]
              go_wp2_with fail
              first | exact ⟨rfl, rfl, rfl⟩ | rfl
            apply wpS_read (i := 29) rfl rfl ⟨_, hS⟩ rfl -- Op.pick t84 (const (Value.bool true)) t92
            · intro w' hT'
              simp only [List.getElem_toArray, List.getElem_cons_zero, List.getElem_cons_succ]
              go_wp2_with fail
              first | exact ⟨rfl, rfl, rfl⟩ | rfl
            refine wpS_end ?_
            intro wv hT
            try dsimp only
            clear hS
            have hS : HS NoF w wv [.blk gx 29 (paceC tr wt1), .blk gp 27 (paceC tr wt1)] := hT
            clear hT
            go_wp2_with fail
            go_roundg (gk - 1)
            case measure => have := hq.out; omega
            case rel => exact ⟨i + 1, gx, tr, wt1, by omega, by go_num, rfl, by omega, by omega, by omega, by omega, hid (by have := hq.out; omega), hS⟩
      · have hlt2 : ¬ (i : Int) < n := by omega
        go_wp2_with fail
        go_ret
        exact ⟨rfl, hS.bel⟩
end Go.Proofs.Ytofpmigifimfoaa
/- Quotients of small whole numbers as floats: up to a whole one they are what they should be. -/
namespace Go.Cour
open Ieee
theorem cut_even_ge (n d : Nat) : n / 2 ^ d ≤ Toward.even.cut false n d := by
  unfold Toward.cut
  simp only [(cut_gap n d).1]
  omega
theorem cut_even_le' (n d : Nat) : Toward.even.cut false n d ≤ n / 2 ^ d + 1 := by
  unfold Toward.cut
  simp only [(cut_gap n d).1]
  have := Bool.toNat_le (c := decide (1 <<< min d (n.log2 + 2) < 2 * (n % (1 <<< min d (n.log2 + 2)))) || (1 <<< min d (n.log2 + 2) == 2 * (n % (1 <<< min d (n.log2 + 2))) && n / 2 ^ d % 2 == 1))
  omega
/-- The word nearest to Q * 2 ^ p, Q of more digits than a word has. -/
theorem nearest_near (Q d : Nat) (p : Int) (h1 : 2 ^ (52 + d) ≤ Q) (h2 : Q < 2 ^ (53 + d)) (hp1 : -900 ≤ p) (hp2 : p + d ≤ 900) :
    ∃ m i, double.read (double.nearest false Q p) = .number false m i ∧ -1074 ≤ i ∧ val m i = Toward.even.cut false Q d * 2 ^ (p + d + 1100).toNat := by
  have hQ : 0 < Q := Nat.lt_of_lt_of_le (two_pos _) h1
  have hlog : Q.log2 = 52 + d := by
    have a := (Nat.le_log2 (by omega)).2 h1
    have b := (Nat.log2_lt (by omega)).2 h2
    omega
  have hlo := cut_even_ge Q d
  have hhi := cut_even_le' Q d
  have b1 : 4503599627370496 ≤ Q / 2 ^ d := by rw [Nat.le_div_iff_mul_le (two_pos d)]; rw [Nat.pow_add] at h1; exact h1
  have b2 : Q / 2 ^ d < 9007199254740992 := by rw [Nat.div_lt_iff_lt_mul (two_pos d)]; rw [Nat.pow_add] at h2; exact h2
  obtain ⟨c, hc⟩ : ∃ c, Toward.even.cut false Q d = c := ⟨_, rfl⟩
  rw [hc] at hlo hhi ⊢
  obtain ⟨e, he⟩ : ∃ e : Nat, p + d + 1074 = e := ⟨(p + d + 1074).toNat, by omega⟩
  have hn : double.nearest false Q p = e * 4503599627370496 + c := by
    unfold Format.nearest
    rw [if_neg (by omega)]
    simp only [dbl_frac, dbl_least, dbl_binade, dbl_inf, hlog]
    have e5 : max (p + ((52 + d : Nat) : Int) - ((52 : Nat) : Int)) (-1074) = p + d := by omega
    rw [e5, show (p - (p + d)).toNat = 0 by omega, show (p + (d : Int) - p).toNat = d by omega, Nat.shiftLeft_zero, hc, show (p + (d : Int) - -1074).toNat = e by omega]
    unfold Format.word
    rw [if_neg (by decide), Nat.min_eq_left (by omega)]
  rw [hn]
  by_cases hcc : c < 9007199254740992
  · refine ⟨c, -1074 + e, read_word c e (by omega) hcc (by omega), by omega, ?_⟩
    unfold val
    rw [show (-1074 + (e : Int) + 1100).toNat = (p + d + 1100).toNat by omega]
  · have hce : c = 9007199254740992 := by omega
    refine ⟨4503599627370496, -1074 + ((e + 1 : Nat) : Int), ?_, by omega, ?_⟩
    · have h := read_word 4503599627370496 (e + 1) (by omega) (by omega) (by omega)
      rw [show e * 4503599627370496 + c = (e + 1) * 4503599627370496 + 4503599627370496 by omega]
      exact h
    · unfold val
      rw [show (-1074 + ((e + 1 : Nat) : Int) + 1100).toNat = (p + d + 1100).toNat + 1 by omega, Nat.pow_succ, hce]
      omega
theorem log_norm {K : Nat} (h1 : 4503599627370496 ≤ K) (h2 : K < 9007199254740992) : K.log2 = 52 := by
  have a := (Nat.le_log2 (n := K) (k := 52) (by omega)).2 h1
  have b := (Nat.log2_lt (n := K) (k := 53) (by omega)).2 h2
  omega
/-- A small whole number as a float. -/
theorem small_read (k c : Nat) (h0 : 0 < k) (hk : k < 2 ^ c) (hc : c ≤ 20) : ∃ K a : Nat, double.read (double.nearest false k 0) = .number false K (-(a : Int)) ∧ 4503599627370496 ≤ K ∧ K < 9007199254740992 ∧ K = k * 2 ^ a ∧ a ≤ 52 ∧ 52 < c + a + 1 := by
  have hk2 : k < 2 ^ 20 := Nat.lt_of_lt_of_le hk (Nat.pow_le_pow_right (by decide) hc)
  obtain ⟨K, last, k1, k2, l1, _, hr, hrel⟩ := nearest_int k h0 (by omega) (.inl (by omega))
  rcases hrel with ⟨h3, h4⟩ | ⟨h3, h4⟩
  · refine ⟨K, (-last).toNat, by rw [hr, show (-(((-last).toNat : Nat) : Int)) = last by omega], k1, k2, h4, by omega, ?_⟩
    rcases Nat.lt_or_ge 52 (c + (-last).toNat + 1) with h5 | h5
    · exact h5
    · exfalso
      have h6 : k * 2 ^ (-last).toNat < 2 ^ c * 2 ^ (-last).toNat := Nat.mul_lt_mul_of_pos_right hk (two_pos _)
      rw [← Nat.pow_add] at h6
      have h7 : 2 ^ (c + (-last).toNat) ≤ 2 ^ 52 := Nat.pow_le_pow_right (by decide) (by omega)
      omega
  · exfalso
    have : K ≤ K * 2 ^ last.toNat := Nat.le_mul_of_pos_right _ (two_pos _)
    omega
/-- The quotient of two small whole numbers, near to what it should be. -/
theorem quo_near (k r : Nat) (hk0 : 0 < k) (hk : k < 2 ^ 14) (hr0 : 0 < r) (hr : r < 2 ^ 7) :
    ∃ y m i, FloatKind.f64.format.div (floatOfInt .f64 (k : Int)) (floatOfInt .f64 (r : Int)) = some y ∧ FloatKind.f64.decode y = .number false m i ∧ -1074 ≤ i ∧
      val m i * r < k * uni + uni ∧ k * uni < val m i * r + uni ∧ (r ∣ k → val m i * r = k * uni) := by
  obtain ⟨K, a, hdk, k1, k2, hKa, a1, a2⟩ := small_read k 14 hk0 hk (by decide)
  obtain ⟨R, b, hdr, r1, r2, hRb, b1, b2⟩ := small_read r 7 hr0 hr (by decide)
  have hfk : floatOfInt .f64 (k : Int) = double.nearest false k 0 := by
    show double.nearest (decide ((k : Int) < 0)) (k : Int).natAbs 0 = _
    rw [decide_eq_false (by omega), Int.natAbs_natCast]
  have hfr : floatOfInt .f64 (r : Int) = double.nearest false r 0 := by
    show double.nearest (decide ((r : Int) < 0)) (r : Int).natAbs 0 = _
    rw [decide_eq_false (by omega), Int.natAbs_natCast]
  obtain ⟨q0, hq0⟩ : ∃ q, K * 18014398509481984 / R = q := ⟨_, rfl⟩
  obtain ⟨rem, hrem⟩ : ∃ q, K * 18014398509481984 % R = q := ⟨_, rfl⟩
  have hdm := Nat.div_add_mod (K * 18014398509481984) R
  have hrl := Nat.mod_lt (K * 18014398509481984) (show R > 0 by omega)
  rw [hq0, hrem] at hdm
  rw [hrem] at hrl
  obtain ⟨st, hst⟩ : ∃ s, (rem != 0).toNat = s := ⟨_, rfl⟩
  have hst1 : st ≤ 1 := by rw [← hst]; exact Bool.toNat_le _
  have hst0 : rem = 0 → st = 0 := fun h => by rw [← hst, h]; rfl
  have hst2 : rem ≠ 0 → st = 1 := fun h => by rw [← hst]; have : (rem != 0) = true := by simpa using h
                                              rw [this]; rfl
  obtain ⟨Q, hQ⟩ : ∃ Q, 2 * q0 + st = Q := ⟨_, rfl⟩
  have hquo : (Datum.number false K (-(a : Int))).quotient (52 + 2) (.number false R (-(b : Int))) = some (.number false Q (-(a : Int) - -(b : Int) - 54 - 1)) := by
    unfold Datum.quotient
    simp only []
    rw [if_neg (by omega), log_norm k1 k2, log_norm r1 r2]
    simp only [Nat.shiftLeft_eq]
    rw [show (2 : Nat) ^ (52 + 2 + 52 - 52) = 18014398509481984 by decide, hq0, hrem, hst, hQ]
    rfl
  have q1 : 9007199254740992 ≤ q0 := by rw [← hq0, Nat.le_div_iff_mul_le (by omega)]; omega
  have q2 : q0 < 36028797018963968 := by rw [← hq0, Nat.div_lt_iff_lt_mul (by omega)]; omega
  obtain ⟨d, hd, hdle, hQ1, hQ2⟩ : ∃ d, 1 ≤ d ∧ d ≤ 3 ∧ 2 ^ (52 + d) ≤ Q ∧ Q < 2 ^ (53 + d) := by
    by_cases h : Q < 2 ^ 55
    · exact ⟨2, by omega, by omega, by omega, by omega⟩
    · exact ⟨3, by omega, by omega, by omega, by omega⟩
  obtain ⟨m, i, hri, hi, hval⟩ := nearest_near Q d (-(a : Int) - -(b : Int) - 54 - 1) hQ1 hQ2 (by omega) (by omega)
  obtain ⟨c, hc⟩ : ∃ c, Toward.even.cut false Q d = c := ⟨_, rfl⟩
  have hclo := cut_even_ge Q d
  have hchi := cut_even_le' Q d
  have hQd := Nat.div_add_mod Q (2 ^ d)
  have hQm := Nat.mod_lt Q (two_pos d)
  rw [hc] at hclo hchi hval
  -- units
  obtain ⟨z, hz⟩ : ∃ z, 1045 + b - a = z := ⟨_, rfl⟩
  rw [show (-(a : Int) - -(b : Int) - 54 - 1 + (d : Int) + 1100).toNat = d + z by omega, Nat.pow_add, ← Nat.mul_assoc] at hval
  have hU : 2 * (K * 18014398509481984) * 2 ^ z = k * uni * 2 ^ b := by
    rw [hKa, uni_pow (show (55 + a) + (1045 - a) = 1100 by omega), show (2 : Nat) ^ (55 + a) = 36028797018963968 * 2 ^ a by rw [Nat.pow_add]]
    rw [show z = (1045 - a) + b by omega, show (2 : Nat) ^ (1045 - a + b) = 2 ^ (1045 - a) * 2 ^ b from Nat.pow_add _ _ _]
    generalize 2 ^ a = A
    generalize 2 ^ (1045 - a) = B
    generalize 2 ^ b = C
    rw [show 2 * (k * A * 18014398509481984) = k * (36028797018963968 * A) by rw [Nat.mul_comm 36028797018963968 A, ← Nat.mul_assoc k A]; omega]
    rw [Nat.mul_assoc k (36028797018963968 * A), Nat.mul_assoc k, Nat.mul_assoc (36028797018963968 * A) B C]
  have hz2 : r * (16 * 2 ^ z) < uni := by
    have e1 : 16 * 2 ^ z = 2 ^ (4 + z) := by rw [Nat.pow_add]
    have e2 : r * 2 ^ (4 + z) < 2 ^ 7 * 2 ^ (4 + z) := Nat.mul_lt_mul_of_pos_right hr (two_pos _)
    have e3 : 2 ^ 7 * 2 ^ (4 + z) ≤ uni := by rw [← Nat.pow_add, uni_pow (show (7 + (4 + z)) + (1089 - z) = 1100 by omega)]; exact Nat.le_mul_of_pos_right _ (two_pos _)
    rw [e1]; omega
  have hZ := two_pos z
  have hB := two_pos b
  have hDD := two_pos d
  have hd8 : 2 ^ d ≤ 8 := Nat.le_trans (Nat.pow_le_pow_right (by decide) hdle) (by decide)
  refine ⟨double.nearest false Q (-(a : Int) - -(b : Int) - 54 - 1), m, i, ?_, hri, hi, ?_⟩
  · show ((double.read (floatOfInt .f64 (k : Int))).quotient (52 + 2) (double.read (floatOfInt .f64 (r : Int)))).map double.write = _
    rw [hfk, hfr, hdk, hdr, hquo]; rfl
  obtain ⟨E, hE⟩ : ∃ E, K * 18014398509481984 = E := ⟨_, rfl⟩
  have hdiv : r ∣ k → rem = 0 ∧ 2 ^ d ∣ Q := fun ⟨N, hN⟩ => by
    have e1 : K * 18014398509481984 = R * (N * 2 ^ (a + 54 - b)) := by
      rw [hKa, hRb, hN, show (18014398509481984 : Nat) = 2 ^ 54 by decide]
      have : 2 ^ a * 2 ^ 54 = 2 ^ b * 2 ^ (a + 54 - b) := by rw [← Nat.pow_add, ← Nat.pow_add]; congr 1; omega
      calc r * N * 2 ^ a * 2 ^ 54 = r * N * (2 ^ a * 2 ^ 54) := by rw [Nat.mul_assoc]
        _ = r * N * (2 ^ b * 2 ^ (a + 54 - b)) := by rw [this]
        _ = r * 2 ^ b * (N * 2 ^ (a + 54 - b)) := by rw [Nat.mul_mul_mul_comm]
    have e2 : rem = 0 := by rw [← hrem, e1]; exact Nat.mul_mod_right _ _
    have e3 : q0 = N * 2 ^ (a + 54 - b) := by rw [← hq0, e1]; exact Nat.mul_div_cancel_left _ (by omega)
    refine ⟨e2, ?_⟩
    rw [← hQ, hst0 e2, e3, Nat.add_zero]
    refine Nat.dvd_trans ?_ (Nat.dvd_mul_left _ _)
    refine Nat.dvd_trans (Nat.pow_dvd_pow 2 (show d ≤ a + 54 - b by omega)) (Nat.dvd_mul_left _ _)
  rw [hE] at hdm hU
  clear hE hq0 hrem hquo hri hdk hdr hfk hfr hst
  generalize 2 ^ z = Z at *
  generalize 2 ^ b = B at *
  -- all times B
  have hVB : val m i * r * B = c * 2 ^ d * R * Z := by rw [hval, hRb]; simp only [Nat.mul_assoc, Nat.mul_comm, Nat.mul_left_comm]
  have hcD1 : c * 2 ^ d ≤ Q + 2 ^ d := by
    have h1 : c * 2 ^ d ≤ (Q / 2 ^ d + 1) * 2 ^ d := Nat.mul_le_mul_right _ hchi
    rw [Nat.add_mul, Nat.one_mul, Nat.mul_comm (Q / 2 ^ d)] at h1
    omega
  have hcD2 : Q < c * 2 ^ d + 2 ^ d := by
    have h1 : Q / 2 ^ d * 2 ^ d ≤ c * 2 ^ d := Nat.mul_le_mul_right _ hclo
    rw [Nat.mul_comm (Q / 2 ^ d)] at h1
    omega
  have hQR : Q * R = 2 * (R * q0) + st * R := by rw [← hQ, Nat.add_mul, Nat.mul_assoc, Nat.mul_comm q0 R]
  have hs : st * R ≤ R := by
    have := Nat.mul_le_mul_right R hst1
    omega
  have hQE1 : Q * R ≤ 2 * E + R := by omega
  have hQE2 : 2 * E < Q * R + R := by
    by_cases h : rem = 0
    · omega
    · have := hst2 h
      rw [this, Nat.one_mul] at hQR
      omega
  have h8R : 2 ^ d * R ≤ 8 * R := Nat.mul_le_mul_right _ hd8
  have hup : c * 2 ^ d * R ≤ 2 * E + 9 * R := by
    have h1 := Nat.mul_le_mul_right R hcD1
    rw [Nat.add_mul] at h1
    omega
  have hlw : 2 * E < c * 2 ^ d * R + 9 * R := by
    have h1 := Nat.mul_le_mul_right R (Nat.le_of_lt hcD2)
    rw [Nat.add_mul] at h1
    omega
  have hRZ : 9 * R * Z = 9 * r * Z * B := by rw [hRb]; simp only [Nat.mul_assoc, Nat.mul_comm, Nat.mul_left_comm]
  have hup2 : val m i * r * B ≤ (k * uni + 9 * r * Z) * B := by
    have h1 := Nat.mul_le_mul_right Z hup
    rw [Nat.add_mul, hU, hRZ] at h1
    rw [hVB, Nat.add_mul]; exact h1
  have hlw2 : k * uni * B < (val m i * r + 9 * r * Z) * B := by
    have h1 := Nat.mul_lt_mul_of_pos_right hlw hZ
    rw [Nat.add_mul, hU, hRZ] at h1
    rw [Nat.add_mul, hVB]; exact h1
  have hup3 := Nat.le_of_mul_le_mul_right hup2 hB
  have hlw3 := Nat.lt_of_mul_lt_mul_right hlw2
  have h9 : 9 * r * Z ≤ r * (16 * Z) := by
    rw [show r * (16 * Z) = 16 * r * Z by rw [← Nat.mul_assoc, Nat.mul_comm r 16]]
    exact Nat.mul_le_mul_right _ (by omega)
  refine ⟨by omega, by omega, fun hdv => ?_⟩
  obtain ⟨e2, e4⟩ := hdiv hdv
  obtain ⟨x, hx⟩ := e4
  rw [Nat.mul_comm] at hx
  have hcx : c = x := by
    rw [← hc, hx]
    refine cut_even x d ?_
    rcases Nat.eq_zero_or_pos x with h0 | h0
    · rw [h0, Nat.zero_mul] at hx; omega
    · exact h0
  have h1 : val m i * r * B = k * uni * B := by
    rw [hVB, hcx, ← hx, hQR, hst0 e2, Nat.zero_mul, Nat.add_zero, ← hU]
    rw [e2, Nat.add_zero] at hdm
    rw [hdm]
  exact Nat.eq_of_mul_eq_mul_right hB h1
end Go.Cour
/- The law PaceLeft. -/
namespace Go.Proofs.Ytofpmigifimfoaa
open Go.RowKit Go.Cour Ieee
set_option exponentiation.threshold 2000 in
theorem uni_pos : 0 < uni := by rw [uni_eq]; exact two_pos _
theorem rest_lt (m : Nat) (i : Int) (hi : -1074 ≤ i) : (if 0 ≤ i then 0 else leftN m i * 2 ^ (i + 1100).toNat) < uni ∧ ((if 0 ≤ i then 0 else leftN m i * 2 ^ (i + 1100).toNat) = 0 ↔ leftN m i = 0) := by
  have hu : 0 < uni := uni_pos
  by_cases h : 0 ≤ i
  · rw [if_pos h]
    exact ⟨hu, fun _ => by unfold leftN; rw [if_pos h], fun _ => rfl⟩
  · rw [if_neg h]
    have h1 : leftN m i < 2 ^ (-i).toNat := by unfold leftN; rw [if_neg h]; exact Nat.mod_lt _ (two_pos _)
    have h2 := Nat.mul_lt_mul_of_pos_right h1 (two_pos (i + 1100).toNat)
    rw [← uni_pow (show (-i).toNat + (i + 1100).toNat = 1100 by omega)] at h2
    refine ⟨h2, fun h3 => ?_, fun h3 => by rw [h3, Nat.zero_mul]⟩
    have := two_pos (i + 1100).toNat
    rcases Nat.mul_eq_zero.1 h3 with h4 | h4
    · exact h4
    · omega
theorem ceil_arith {k r V T L U N : Nat} (hr : 0 < r) (hv : V = T * U + L) (hl : L < U) (hN : N = T + (if L = 0 then 0 else 1)) (h1 : V * r < k * U + U) (h2 : k * U < V * r + U) (h3 : r ∣ k → V * r = k * U) : k ≤ N * r ∧ (0 < N → (N - 1) * r < k) := by
  have hu : 0 < U := by omega
  have hVN : V ≤ N * U := by
    rw [hN, hv]
    by_cases h : L = 0
    · rw [if_pos h, h]; exact Nat.le_refl _
    · rw [if_neg h, Nat.add_mul, Nat.one_mul]; omega
  have hVN1 : 0 < N → (N - 1) * U < V := fun h0 => by
    rw [hv]
    by_cases h : L = 0
    · rw [if_pos h] at hN
      have : T = (N - 1) + 1 := by omega
      rw [this, Nat.add_mul, Nat.one_mul]; omega
    · rw [if_neg h] at hN
      have : N - 1 = T := by omega
      rw [this]; omega
  clear hN hv
  constructor
  · rcases Nat.lt_or_ge (N * r) k with h | h
    · exfalso
      have e1 : V * r ≤ N * r * U := by
        have := Nat.mul_le_mul_right r hVN
        rwa [Nat.mul_right_comm] at this
      have e2 : (N * r + 1) * U ≤ k * U := Nat.mul_le_mul_right _ h
      rw [Nat.add_mul, Nat.one_mul] at e2
      omega
    · exact h
  · intro h0
    rcases Nat.lt_or_ge ((N - 1) * r) k with h | h
    · exact h
    · exfalso
      have e0 := hVN1 h0
      have e1 : (N - 1) * r * U < V * r := by
        have := Nat.mul_lt_mul_of_pos_right e0 hr
        rwa [Nat.mul_right_comm] at this
      rcases Nat.eq_or_lt_of_le h with h4 | h4
      · have h5 := h3 ⟨N - 1, by rw [h4, Nat.mul_comm]⟩
        rw [← h4] at e1
        omega
      · have e2 : (k + 1) * U ≤ (N - 1) * r * U := Nat.mul_le_mul_right _ h4
        rw [Nat.add_mul, Nat.one_mul] at e2
        omega
/-- A quotient of small whole numbers up to a whole one. -/
theorem ceil_quo {k r m : Nat} {i : Int} (hr : 0 < r) (hi : -1074 ≤ i) (h1 : val m i * r < k * uni + uni) (h2 : k * uni < val m i * r + uni) (h3 : r ∣ k → val m i * r = k * uni) : k ≤ ceilN m i * r ∧ (0 < ceilN m i → (ceilN m i - 1) * r < k) := by
  have hv := val_trunc m i (by omega)
  obtain ⟨hl, hl0⟩ := rest_lt m i hi
  refine ceil_arith hr hv hl ?_ h1 h2 h3
  unfold ceilN
  by_cases h : (if 0 ≤ i then 0 else leftN m i * 2 ^ (i + 1100).toNat) = 0
  · rw [if_pos h, if_pos (hl0.1 h)]
  · rw [if_neg h, if_neg (fun h4 => h (hl0.2 h4))]
theorem ticks_quo (k r : Nat) (hk0 : 0 < k) (hk : k < 10000) (hr0 : 0 < r) (hr : r ≤ 100) :
    ∃ N : Nat, ticksV ((FloatKind.f64.format.div (floatOfInt .f64 (k : Int)) (floatOfInt .f64 (r : Int))).getD 0) = N ∧ k ≤ N * r ∧ 0 < N ∧ (N - 1) * r < k := by
  obtain ⟨y, m, i, hd, hy, hi, h1, h2, h3⟩ := quo_near k r hk0 (by omega) hr0 (by omega)
  obtain ⟨c1, c2⟩ := ceil_quo hr0 hi h1 h2 h3
  have hu : 0 < uni := uni_pos
  have hV0 : 0 < val m i := by
    rcases Nat.eq_zero_or_pos (val m i) with h | h
    · exfalso
      rw [h, Nat.zero_mul] at h2
      have := Nat.mul_le_mul_right uni hk0
      omega
    · exact h
  have e1 : ford y 0 = some .gt := by
    rw [ford_def, hy, read_zero, order_val _ _ _ _ (by omega) (by omega)]
    have : val 0 (-1074) = 0 := by simp [val]
    rw [this, if_neg (by omega), if_neg (by omega)]
  have e2 : ford y 4886405595696988160 = some .lt := by
    rw [big_order hy, if_pos]
    have e3 := val_trunc 4503599627370496 10 (by omega)
    rw [if_pos (by omega), Nat.add_zero, show truncN 4503599627370496 10 = 4611686018427387904 by decide] at e3
    rw [e3]
    have e4 : val m i ≤ val m i * r := Nat.le_mul_of_pos_right _ hr0
    have e5 : (k + 1) * uni ≤ 4611686018427387904 * uni := Nat.mul_le_mul_right _ (by omega)
    rw [Nat.add_mul, Nat.one_mul] at e5
    omega
  have hN0 : 0 < ceilN m i := by
    rcases Nat.eq_zero_or_pos (ceilN m i) with h | h
    · exfalso; rw [h, Nat.zero_mul] at c1; omega
    · exact h
  refine ⟨ceilN m i, ?_, c1, hN0, c2 hN0⟩
  rw [hd]
  show ticksV y = _
  unfold ticksV
  rw [if_pos e1, if_pos e2, hy]
theorem rates_all : ((List.range 100).all fun (j : Nat) => floatBits .quo .f64 (floatOfInt .f64 ((j : Int) + 1)) (floatOfInt .f64 1) == some (floatOfInt .f64 ((j : Int) + 1)) && ford (floatOfInt .f64 ((j : Int) + 1)) 0 == some .gt) = true := by kernel_rfl
theorem rates_at (r : Nat) (h1 : 1 ≤ r) (h2 : r ≤ 100) : floatBits .quo .f64 (floatOfInt .f64 (r : Int)) (floatOfInt .f64 1) = some (floatOfInt .f64 (r : Int)) ∧ ford (floatOfInt .f64 (r : Int)) 0 = some .gt := by
  have h := List.all_eq_true.1 rates_all (r - 1) (List.mem_range.2 (by omega))
  rw [show ((r - 1 : Nat) : Int) + 1 = r by omega] at h
  simp only [Bool.and_eq_true, beq_iff_eq] at h
  exact h
set_option maxHeartbeats 4000000 in
set_option maxRecDepth 100000 in
theorem paceLeft_calls (h_ a_ r_ : Int) (w : World) :
    Calls Try.prog 7 #[.int .i64 h_, .int .i64 a_, .int .i64 r_] w fun e w' => e = .returned (.bool true) ∧ Below w.heap.size w w' := by
  have hS := HS.start NoF w
  go_enter Try.func7, Try.ntmps7
  go_wp2_with (first
    | (go_at_call 8; refine (first23_calls _).mono ?_; rintro e w2 ⟨rfl, hB⟩; replace hS := hS.below hB; clear hB)
    | fail)
  refine (numberN_calls h_ 10000 _ (by omega) (by omega)).mono ?_
  rintro e wz ⟨h, hh, rfl, rfl⟩
  go_wp2_with fail
  refine (numberN_calls a_ 10000 _ (by omega) (by omega)).mono ?_
  rintro e wz ⟨a, ha, rfl, rfl⟩
  go_wp2_with fail
  refine (numberN_calls r_ 100 _ (by omega) (by omega)).mono ?_
  rintro e wz ⟨r0, hr0, rfl, rfl⟩
  obtain ⟨r, hr⟩ : ∃ r : Nat, Hd (r0 + 1 = r) := ⟨_, hid rfl⟩
  have hrb : 1 ≤ r ∧ r ≤ 100 := by have := hr.out; omega
  have hri : Hd ((r0 : Int) + 1 = r) := hid (by have := hr.out; omega)
  obtain ⟨hq, hg⟩ := rates_at r hrb.1 hrb.2
  go_wp2_with fail
  rw [hri.out]
  refine (rate_calls r 1 _ _ hq).mono ?_
  rintro e w3 ⟨rfl, rfl⟩
  by_cases hle : a ≤ h
  · have hle2 : (a : Int) ≤ h := by omega
    clear hq hg
    go_wp2_with fail
    refine (left_calls h a _ _ (by omega) (by omega)).mono ?_
    rintro e w4 ⟨rfl, rfl⟩
    rw [show leftV (h : Int) (a : Int) (floatOfInt .f64 (r : Int)) = 0 from if_pos hle2]
    go_wp2_with fail
    go_ret
    exact ⟨rfl, hS.bel⟩
  · have hle2 : ¬ (a : Int) ≤ h := by omega
    obtain ⟨k, hk⟩ : ∃ k : Nat, Hd ((a : Int) - h = k) := ⟨a - h, hid (by omega)⟩
    have hkb : 1 ≤ k ∧ k < 10000 := by have := hk.out; omega
    obtain ⟨N, hN, n1, n0, n2⟩ := ticks_quo k r (by omega) (by omega) (by omega) hrb.2
    have hV : Hd (leftV h a (floatOfInt .f64 (r : Int)) = N) := hid (by unfold leftV; rw [if_neg hle2, if_pos hg, hk.out, hN])
    have hNk : N ≤ 10000 := by
      have : (N - 1) * 1 ≤ (N - 1) * r := Nat.mul_le_mul_left _ hrb.1
      omega
    obtain ⟨M1, hM1⟩ : ∃ M : Nat, Hd (N * r = M) := ⟨_, hid rfl⟩
    obtain ⟨M2, hM2⟩ : ∃ M : Nat, Hd ((N - 1) * r = M) := ⟨_, hid rfl⟩
    rw [hM1.out] at n1
    rw [hM2.out] at n2
    have hMb : M1 ≤ 1000000 := by rw [← hM1.out]; exact Nat.le_trans (Nat.mul_le_mul hNk hrb.2) (by decide)
    have hm1 : wrap64 ((N : Int) * (r : Int)) = M1 := by rw [← Int.natCast_mul, hM1.out]; exact IntWalk.wrap64_in _ (by omega)
    have hm2 : wrap64 (((N : Int) - 1) * (r : Int)) = M2 := by rw [show (N : Int) - 1 = ((N - 1 : Nat) : Int) by omega, ← Int.natCast_mul, hM2.out]; exact IntWalk.wrap64_in _ (by omega)
    have hki := hk.out
    have k1 : (k : Int) ≤ M1 := by omega
    have k2 : (M2 : Int) < k := by omega
    clear hq hg hN n1 n2
    go_wp2_with fail
    refine (left_calls h a _ _ (by omega) (by omega)).mono ?_
    rintro e w4 ⟨rfl, rfl⟩
    rw [hV.out]
    go_wp2_with fail
    go_ret
    exact ⟨rfl, hS.bel⟩
end Go.Proofs.Ytofpmigifimfoaa
