import Derived.Laws.CopyOwn
import Derived.ArgAppend
import Derived.Test.YtenjpmegnjdobaaDoorProg
import Derived.Test.YtenjpmegnjdobaaDoorMgSB0
import Derived.Test.YtenjpmegnjdobaaDoorMgSB1
import Derived.Test.YtenjpmegnjdobaaDoorMgSB2
import Derived.Test.YtenjpmegnjdobaaDoorMgSB3
import Derived.Test.YtenjpmegnjdobaaDoorMgSB4
set_option linter.unusedSimpArgs false
set_option linter.unusedVariables false
/- A region that draws its order: reads; soft acts (they make memory, and leave all that is there); hard ones. -/
namespace Go.Cour
open Go.RowKit
theorem mem_iff {w : World} : ∀ {L : List Ent}, Mem w L ↔ (∀ e ∈ L, e.p w) ∧ L.Pairwise (fun e f => ∀ k, e.F k → ¬ f.F k)
  | [] => by simp [Mem]
  | e :: L => by
    simp only [Mem, mem_iff, List.mem_cons, List.pairwise_cons, forall_eq_or_imp]
    constructor
    · rintro ⟨h1, h2, h3, h4⟩; exact ⟨⟨h1, h3⟩, h2, h4⟩
    · rintro ⟨⟨h1, h3⟩, h2, h4⟩; exact ⟨h1, h2, h3, h4⟩
theorem Mem.perm {w : World} {L L' : List Ent} (h : Mem w L) (hp : L.Perm L') : Mem w L' := by
  rw [mem_iff] at h ⊢
  exact ⟨fun e he => h.1 e (hp.mem_iff.2 he), hp.pairwise h.2 fun {e f} hef k hf he => hef k he hf⟩
section
variable {F : Nat → Prop} {w0 w w' : World} {L L' E : List Ent}
theorem HS.perm (h : HS F w0 w L) (hp : L.Perm L') : HS F w0 w L' := ⟨h.upd, h.mem.perm hp, fun e he => h.own e (hp.mem_iff.2 he)⟩
theorem HS.sub (h : HS F w0 w L) (hs : L'.Sublist L) : HS F w0 w L' :=
  ⟨h.upd, mem_iff.2 ⟨fun e he => (mem_iff.1 h.mem).1 e (hs.mem he), (mem_iff.1 h.mem).2.sublist hs⟩, fun e he => h.own e (hs.mem he)⟩
theorem HS.drop2 (h : HS F w0 w (E ++ L)) : HS F w0 w L := h.sub (List.sublist_append_right _ _)
/-- New things beside all that is there. -/
theorem HS.beside (h : HS F w0 w L) (hb : Below w.heap.size w w') (hE : HS F w0 w' (E ++ L')) (hn : ∀ e ∈ E, ∀ k, e.F k → w.heap.size ≤ k) : HS F w0 w' (E ++ L) := by
  have h1 := h.below hb
  have hE1 := hE.sub (List.sublist_append_left E L')
  refine ⟨h1.upd, mem_iff.2 ⟨fun e he => ?_, List.pairwise_append.2 ⟨(mem_iff.1 hE1.mem).2, (mem_iff.1 h1.mem).2, fun e he f hf k hk hfk => ?_⟩⟩, fun e he => ?_⟩
  · rcases List.mem_append.1 he with he | he
    · exact (mem_iff.1 hE1.mem).1 e he
    · exact (mem_iff.1 h1.mem).1 e he
  · have := hn e he k hk; have := h.mem.lt hf k hfk; omega
  · rcases List.mem_append.1 he with he | he
    · exact hE1.own e he
    · exact h1.own e he
end
/-- A call that changes some of the things, and lays others in their place. -/
theorem HS.call {F G : Nat → Prop} {w0 w w' : World} {A B L : List Ent} (h : HS F w0 w (A ++ L)) (hc : HS G w w' B) (hG : ∀ k, G k → ∃ e ∈ A, e.F k) : HS F w0 w' (B ++ L) := by
  have hdis := (List.pairwise_append.1 (mem_iff.1 h.mem).2).2.2
  have hkeep : ∀ k, k < w.heap.size → ¬ G k → w'.heap[k]? = w.heap[k]? := hc.upd.block
  refine ⟨⟨hc.upd.os.trans h.upd.os, hc.upd.tape.trans h.upd.tape, hc.upd.output.trans h.upd.output, Nat.le_trans h.size hc.size, fun k hk hf => ?_⟩, mem_iff.2 ⟨fun e he => ?_, List.pairwise_append.2 ⟨(mem_iff.1 hc.mem).2, (mem_iff.1 h.drop2.mem).2, fun e he f hf k hk hfk => ?_⟩⟩, fun e he k hk => ?_⟩
  · refine (hkeep k (Nat.lt_of_lt_of_le hk h.size) fun hg => ?_).trans (h.upd.block k hk hf)
    obtain ⟨e, he, hek⟩ := hG k hg
    rcases h.own e (List.mem_append_left _ he) k hek with h1 | h1
    · exact hf h1
    · omega
  · rcases List.mem_append.1 he with he | he
    · exact (mem_iff.1 hc.mem).1 e he
    · refine e.kept ((mem_iff.1 h.mem).1 e (List.mem_append_right _ he)) fun k hk => hkeep k (h.mem.lt (List.mem_append_right _ he) k hk) fun hg => ?_
      obtain ⟨e', he', hek⟩ := hG k hg
      exact hdis e' he' e he k hek hk
  · rcases hc.own e he k hk with h1 | h1
    · obtain ⟨e', he', hek⟩ := hG k h1
      exact hdis e' he' f hf k hek hfk
    · have := h.mem.lt (List.mem_append_right _ hf) k hfk; omega
  · rcases List.mem_append.1 he with he | he
    · rcases hc.own e he k hk with h1 | h1
      · obtain ⟨e', he', hek⟩ := hG k h1
        exact h.own e' (List.mem_append_left _ he') k hek
      · exact .inr (Nat.le_trans h.size h1)
    · exact h.own e (List.mem_append_right _ he) k hk
/-- An operation's kind: 1 a soft act, 2 a hard one, 0 it reads. -/
def kdOf (sa hh : List Nat) (i : Nat) : Nat := if sa.contains i then 1 else if hh.contains i then 2 else 0
def okPair (sa hh : List Nat) (p i : Nat) : Bool := kdOf sa hh p == 0 || kdOf sa hh i == 0 || (kdOf sa hh p == 1 && kdOf sa hh i == 1)
section
variable (P : Program) (ops : Array Oper) (N : Act → World → Prop) (F : Nat → Prop) (w0 : World) (sa hh : List Nat) (K : Nat → Value → List Ent → Prop)
/-- What a soft act does. -/
def SoftQ (i : Nat) (L0 : List Ent) (w' : World) (u : Value) (w'' : World) : Prop := ∃ E, K i u E ∧ HS F w0 w'' (E ++ L0) ∧ Below w'.heap.size w' w'' ∧ ∀ e ∈ E, ∀ k, e.F k → w'.heap.size ≤ k
/-- The operations walked in the order of the text. -/
def wpS : List Ent → List Ent → List Nat → Act → Prop
  | L0, σ, [], a => ∀ w, HS F w0 w (σ ++ L0) → N a w
  | L0, σ, i :: rest, a => match ops[i]? with
    | none => False
    | some o =>
      if kdOf sa hh i = 0 then ∃ v, (∀ w', HS F w0 w' L0 → Rd1 P ops o a w' v) ∧ wpS L0 σ rest (a.put o.dst v)
      else if kdOf sa hh i = 1 then (∀ w', HS F w0 w' L0 → V1 P ops o a w' (SoftQ F w0 K i L0 w')) ∧ ∀ u E, K i u E → (∃ w, HS F w0 w (E ++ σ ++ L0)) → wpS L0 (E ++ σ) rest (a.put o.dst u)
      else ∀ w, HS F w0 w (σ ++ L0) → V1 P ops o a w fun u w' => if totB ops i then ∃ L1 σ', HS F w0 w' (σ' ++ L1) ∧ wpS L1 σ' rest (a.put o.dst u) else ∃ σ', HS F w0 w' (σ' ++ L0) ∧ wpS L0 σ' rest (a.put o.dst u)
def chkSOne (i : Nat) : Bool :=
  match ops[i]? with
  | none => true
  | some o => (o.after.all fun e => !Region.binds .any e || decide (e.on < i)) && !isSelect o.op &&
    (List.range i).all fun p => dirW ops i p || (match ops[p]? with | some q => q.apart ops o && okPair sa hh p i | none => true)
def chkS : Bool := (List.range ops.size).all (chkSOne ops sa hh)
structure ChkS : Prop where
  back : ∀ (i : Nat) (o : Oper), ops[i]? = some o → ∀ e ∈ o.after, Region.binds .any e = true → e.on < i
  sel : ∀ (i : Nat) (o : Oper), ops[i]? = some o → noSel o
  ahead : ∀ (i : Nat) (o : Oper), ops[i]? = some o → ∀ p q, p < i → ops[p]? = some q → waitsT ops 200 i p = true ∨ (q.apart ops o = true ∧ okPair sa hh p i = true)
end
section
variable {P : Program} {ops : Array Oper} {N : Act → World → Prop} {F : Nat → Prop} {w0 : World} {sa hh : List Nat} {K : Nat → Value → List Ent → Prop}
theorem chkS_spec (h : chkS ops sa hh = true) : ChkS ops sa hh := by
  have h1 : ∀ i o, ops[i]? = some o → ((o.after.all fun e => !Region.binds .any e || decide (e.on < i)) = true ∧ isSelect o.op = false) ∧
    ((List.range i).all fun p => dirW ops i p || (match ops[p]? with | some q => q.apart ops o && okPair sa hh p i | none => true)) = true := fun i o ho => by
    have := List.all_eq_true.1 h i (List.mem_range.2 (Array.getElem?_eq_some_iff.1 ho).1)
    unfold chkSOne at this
    simp only [ho, Bool.and_eq_true, Bool.not_eq_true'] at this
    exact this
  refine ⟨fun i o ho e he hb => ?_, fun i o ho cs b hs => ?_, fun i o ho p q hp hq => ?_⟩
  · have := Array.all_eq_true'.1 (h1 i o ho).1.1 e he
    simpa [hb] using this
  · have := (h1 i o ho).1.2
    rw [hs] at this
    simp [isSelect] at this
  · have := List.all_eq_true.1 (h1 i o ho).2 p (List.mem_range.2 hp)
    simp only [hq, Bool.or_eq_true, Bool.and_eq_true] at this
    rcases this with h2 | h2
    · exact .inl (dirW_waits h2)
    · exact .inr h2
theorem wpS_perm : ∀ (l : List Nat) {L0 σ σ' : List Ent} {a : Act}, wpS P ops N F w0 sa hh K L0 σ l a → σ.Perm σ' → wpS P ops N F w0 sa hh K L0 σ' l a
  | [], L0, σ, σ', a, h, hp => fun w hw => h w (hw.perm ((hp.symm).append_right _))
  | i :: rest, L0, σ, σ', a, h, hp => by
    simp only [wpS] at h ⊢
    cases ho : ops[i]? with
    | none => simp only [ho] at h
    | some o =>
      simp only [ho] at h ⊢
      split
      · rename_i h0
        rw [if_pos h0] at h
        obtain ⟨v, h1, h2⟩ := h
        exact ⟨v, h1, wpS_perm rest h2 hp⟩
      · rename_i h0
        rw [if_neg h0] at h
        split
        · rename_i h1
          rw [if_pos h1] at h
          refine ⟨h.1, fun u E hK ⟨w, hw⟩ => wpS_perm rest (h.2 u E hK ⟨w, hw.perm (((hp.symm).append_left E).append_right L0)⟩) (hp.append_left E)⟩
        · rename_i h1
          rw [if_neg h1] at h
          exact fun w hw => h w (hw.perm ((hp.symm).append_right _))
theorem wpS_pull (i : Nat) (o : Oper) (post : List Nat) (hi : ops[i]? = some o) (hso : noSel o) : ∀ (pre : List Nat) (L0 σ : List Ent) (a : Act), (∃ w, HS F w0 w (σ ++ L0)) → (pre ≠ [] → totB ops i = false) → (∀ j ∈ pre, totB ops j = false ∧ ∃ p, ops[j]? = some p ∧ p.apart ops o = true ∧ okPair sa hh j i = true ∧ noSel p) → wpS P ops N F w0 sa hh K L0 σ (pre ++ i :: post) a →
    wpS P ops N F w0 sa hh K L0 σ (i :: (pre ++ post)) a
  | [], L0, σ, a, _, _, _, h => h
  | j :: pre, L0, σ, a, hw, hti, hp, h => by
    obtain ⟨htj, p, hj, hap, hok, hsp⟩ := hp j (List.mem_cons_self ..)
    have hti' := hti (by simp)
    obtain ⟨s1, s2, s3⟩ := Oper.apart_spec hap
    have s4 : ∀ t, o.dst = some t → p.dst ≠ some t := fun t ht hpt => s2 t hpt ht
    have ih := fun σ a hw => wpS_pull i o post hi hso pre L0 σ a hw (fun _ => hti') (fun q hq => hp q (List.mem_cons_of_mem _ hq))
    simp only [List.cons_append, wpS, hj, hi, htj, hti', Bool.false_eq_true, if_false] at h ih ⊢
    obtain ⟨w, hw⟩ := hw
    have hwL := hw.drop2
    by_cases kp0 : kdOf sa hh j = 0
    · rw [if_pos kp0] at h
      obtain ⟨vp, hvp, h⟩ := h
      have h2 := ih σ _ ⟨w, hw⟩ h
      by_cases ko0 : kdOf sa hh i = 0
      · rw [if_pos ko0] at h2 ⊢
        obtain ⟨v, hv, h3⟩ := h2
        refine ⟨v, fun w' hw' => (Rd1.put vp s1 s2 hso).1 (hv w' hw'), ?_⟩
        rw [if_pos kp0]
        refine ⟨vp, fun w' hw' => (Rd1.put v s3 s4 hsp).2 (hvp w' hw'), ?_⟩
        rw [← Act.put_comm a vp v s2]; exact h3
      · rw [if_neg ko0] at h2 ⊢
        by_cases ko1 : kdOf sa hh i = 1
        · rw [if_pos ko1] at h2 ⊢
          refine ⟨fun w' hw' => (V1.put vp s1 hso).1 (h2.1 w' hw'), fun u E hK hx => ?_⟩
          rw [if_pos kp0]
          refine ⟨vp, fun w'' hw'' => (Rd1.put u s3 s4 hsp).2 (hvp w'' hw''), ?_⟩
          rw [← Act.put_comm a vp u s2]; exact h2.2 u E hK hx
        · rw [if_neg ko1] at h2 ⊢
          intro w1 hw1
          refine ((V1.put vp s1 hso).1 (h2 w1 hw1)).mono fun u w' ⟨σ', h3, h4⟩ => ⟨σ', h3, ?_⟩
          rw [if_pos kp0]
          refine ⟨vp, fun w'' hw'' => (Rd1.put u s3 s4 hsp).2 (hvp w'' hw''), ?_⟩
          rw [← Act.put_comm a vp u s2]; exact h4
    · rw [if_neg kp0] at h
      by_cases kp1 : kdOf sa hh j = 1
      · rw [if_pos kp1] at h
        obtain ⟨hv1, hk⟩ := h
        obtain ⟨u0, w1, E0, hK0, hE0, hb0, hn0⟩ := (hv1 w hwL).ex
        have hx0 : HS F w0 w1 (E0 ++ (σ ++ L0)) := hw.beside hb0 hE0 hn0
        have hx0' : ∃ w, HS F w0 w (E0 ++ σ ++ L0) := ⟨w1, by rw [List.append_assoc]; exact hx0⟩
        by_cases ko0 : kdOf sa hh i = 0
        · rw [if_pos ko0]
          have h5 := ih _ _ hx0' (hk u0 E0 hK0 hx0')
          rw [if_pos ko0] at h5
          obtain ⟨v0, hv0, _⟩ := h5
          refine ⟨v0, fun w' hw' => (Rd1.put u0 s1 s2 hso).1 (hv0 w' hw'), ?_⟩
          rw [if_neg kp0, if_pos kp1]
          refine ⟨fun w' hw' => (V1.put v0 s3 hsp).2 (hv1 w' hw'), fun u E hK hx => ?_⟩
          have h6 := ih _ _ hx (hk u E hK hx)
          rw [if_pos ko0] at h6
          obtain ⟨v, hv, h7⟩ := h6
          have hvv : a.put o.dst v = a.put o.dst v0 := ((Rd1.put u s1 s2 hso).1 (hv w hwL)).det ((Rd1.put u0 s1 s2 hso).1 (hv0 w hwL))
          rw [Act.put_comm a u v s2, hvv] at h7
          exact h7
        · rw [if_neg ko0]
          have ko1 : kdOf sa hh i = 1 := by
            unfold okPair at hok
            simp only [Bool.or_eq_true, Bool.and_eq_true, beq_iff_eq] at hok
            rcases hok with (h1 | h1) | h1
            · exact absurd h1 kp0
            · exact absurd h1 ko0
            · exact h1.2
          rw [if_pos ko1]
          have h5 := ih _ _ hx0' (hk u0 E0 hK0 hx0')
          rw [if_neg ko0, if_pos ko1] at h5
          refine ⟨fun w' hw' => (V1.put u0 s1 hso).1 (h5.1 w' hw'), fun v Eo hKo hxo => ?_⟩
          rw [if_neg kp0, if_pos kp1]
          refine ⟨fun w' hw' => (V1.put v s3 hsp).2 (hv1 w' hw'), fun u E hK ⟨w2, hw2⟩ => ?_⟩
          have hpm : (E ++ (Eo ++ σ)).Perm (Eo ++ (E ++ σ)) := by
            rw [← List.append_assoc, ← List.append_assoc]; exact List.perm_append_comm.append_right σ
          have hw3 : HS F w0 w2 (Eo ++ (E ++ σ) ++ L0) := hw2.perm (hpm.append_right L0)
          have hx : ∃ w, HS F w0 w (E ++ σ ++ L0) := ⟨w2, by rw [List.append_assoc Eo] at hw3; exact hw3.drop2⟩
          have h6 := ih _ _ hx (hk u E hK hx)
          rw [if_neg ko0, if_pos ko1] at h6
          have h7 := h6.2 v Eo hKo ⟨w2, hw3⟩
          rw [Act.put_comm a u v s2] at h7
          exact wpS_perm _ h7 hpm.symm
      · rw [if_neg kp1] at h
        have ko0 : kdOf sa hh i = 0 := by
          unfold okPair at hok
          simp only [Bool.or_eq_true, Bool.and_eq_true, beq_iff_eq] at hok
          rcases hok with (h1 | h1) | h1
          · exact absurd h1 kp0
          · exact h1
          · exact absurd h1.1 kp1
        rw [if_pos ko0]
        have h2 : ∀ w, HS F w0 w (σ ++ L0) → V1 P ops p a w fun u w' => ∃ σ', HS F w0 w' (σ' ++ L0) ∧ ∃ v, (∀ w'', HS F w0 w'' L0 → Rd1 P ops o a w'' v) ∧ wpS P ops N F w0 sa hh K L0 σ' (pre ++ post) ((a.put p.dst u).put o.dst v) := fun w1 hw1 => (h w1 hw1).mono fun u w' ⟨σ', h3, h4⟩ => by
          have h5 := ih _ _ ⟨w', h3⟩ h4
          rw [if_pos ko0] at h5
          obtain ⟨v, hv, h6⟩ := h5
          exact ⟨σ', h3, v, fun w'' hw'' => (Rd1.put u s1 s2 hso).1 (hv w'' hw''), h6⟩
        obtain ⟨u0, w1, σ0, hT0, v0, hv0, _⟩ := (h2 w hw).ex
        refine ⟨v0, hv0, ?_⟩
        rw [if_neg kp0, if_neg kp1]
        intro w2 hw2
        refine (V1.put v0 s3 hsp).2 ((h2 w2 hw2).mono fun u w' ⟨σ', h3, v, hv, h4⟩ => ⟨σ', h3, ?_⟩)
        rw [Act.put_comm a u v s2, (hv w' h3.drop2).det (hv0 w' h3.drop2)] at h4
        exact h4
theorem wpAny_S {Q : Exit → Act → World → Prop} (hN : ∀ a w, N a w → Q .normal a w) (hc : ChkS ops sa hh) : ∀ (fuel : Nat) (listed : Array Bool) (L0 σ : List Ent) (a : Act) (w : World), HS F w0 w (σ ++ L0) → listed.size = ops.size → Closed ops listed → (rem ops listed).length ≤ fuel →
    wpS P ops N F w0 sa hh K L0 σ (rem ops listed) a → wpAny P .any ops Q fuel listed a w := by
  have fin : ∀ (listed : Array Bool) (L0 σ : List Ent) (a : Act) (w : World), HS F w0 w (σ ++ L0) → listed.size = ops.size → Region.ready .any ops listed = [] → wpS P ops N F w0 sa hh K L0 σ (rem ops listed) a → Q .normal a w := fun listed L0 σ a w hw hl hr h => by
    have hall : ∀ n j, j < n → j < ops.size → listed.getD j false = true := fun n => by
      induction n with
      | zero => intro j hj; omega
      | succ n ih =>
        intro j hj hlt
        by_cases hjn : j < n
        · exact ih j hjn hlt
        · have hjn' : j = n := by omega
          subst hjn'
          cases hlj : listed.getD j false with
          | true => rfl
          | false =>
            have hun := getD_in (by rw [hl]; exact hlt) hlj
            have ho : ops[j]? = some ops[j] := Array.getElem?_eq_getElem hlt
            have : j ∈ Region.ready .any ops listed := mem_ready.2 ⟨hun, ops[j], ho, fun e he hb => ih e.on (hc.back j _ ho e he hb) (by have := hc.back j _ ho e he hb; omega)⟩
            rw [hr] at this
            cases this
    have hre : rem ops listed = [] := List.filter_eq_nil_iff.2 fun j hj => by
      have := hall (j + 1) j (by omega) (List.mem_range.1 hj)
      unfold unl
      cases h2 : listed.getD j true with
      | true => simp
      | false => rw [getD_both h2] at this; cases this
    rw [hre] at h
    exact hN _ _ (h w hw)
  intro fuel
  induction fuel with
  | zero =>
    intro listed L0 σ a w hT hl hcl hf h
    have hr : Region.ready .any ops listed = [] := by
      rcases hx : Region.ready .any ops listed with _ | ⟨i, l⟩
      · rfl
      · have hm : i ∈ Region.ready .any ops listed := by rw [hx]; exact List.mem_cons_self ..
        obtain ⟨hun, o, ho, _⟩ := mem_ready.1 hm
        have h1 : i ∈ rem ops listed := List.mem_filter.2 ⟨List.mem_range.2 (Array.getElem?_eq_some_iff.1 ho).1, by simp [unl, hun]⟩
        have h2 := List.length_eq_zero_iff.1 (Nat.le_zero.1 hf)
        rw [h2] at h1
        cases h1
    exact ⟨hr, fin listed L0 σ a w hT hl hr h⟩
  | succ fuel ih =>
    intro listed L0 σ a w hT hl hcl hf h
    refine ⟨fun hr => fin listed L0 σ a w hT hl hr h, fun i hir => ?_⟩
    obtain ⟨hun, o, ho, hall⟩ := mem_ready.1 hir
    have hlt := (Array.getElem?_eq_some_iff.1 ho).1
    have him : i ∈ rem ops listed := List.mem_filter.2 ⟨List.mem_range.2 hlt, by simp [unl, hun]⟩
    obtain ⟨s, t, hst⟩ := List.append_of_mem him
    have hpw : (s ++ i :: t).Pairwise (· < ·) := by
      rw [← hst]; exact List.Pairwise.filter _ List.pairwise_lt_range
    have hrem : rem ops (listed.setIfInBounds i true) = s ++ t := by
      rw [← filter_ne_mid hpw, ← hst]
      unfold rem
      rw [List.filter_filter]
      refine List.filter_congr fun j hj => ?_
      unfold unl
      by_cases hij : i = j
      · subst hij
        have h0 : i < listed.size := by rw [hl]; exact hlt
        simp [h0]
      · rw [getD_set_ne true hij]
        simp [Ne.symm hij]
    have hlate : ∀ k ∈ s, waitsT ops 200 i k = true → False := fun k hk hw => by
      have hki : k < i := (List.pairwise_append.1 hpw).2.2 k hk i (List.mem_cons_self ..)
      have hku : k ∈ rem ops listed := by rw [hst]; exact List.mem_append_left _ hk
      have hkun : listed.getD k true = false := by
        have := (List.mem_filter.1 hku).2
        simpa [unl] using this
      have : waitsT ops 200 i k = true := hw
      unfold waitsT at this
      rw [Bool.or_eq_true] at this
      rcases this with h3 | h3
      · have : i = k := by simpa using h3
        omega
      · simp only [ho] at h3
        obtain ⟨e, he, hb⟩ := Array.any_eq_true'.1 h3
        simp only [Bool.and_eq_true] at hb
        have h4 := hcl.waits hl 199 e.on k hb.2 (by have := hc.back i o ho e he hb.1; omega) (hall e he hb.1)
        rw [getD_both hkun] at h4
        cases h4
    have hpre : ∀ j ∈ s, totB ops j = false ∧ ∃ p, ops[j]? = some p ∧ p.apart ops o = true ∧ okPair sa hh j i = true ∧ noSel p := fun k hk => by
      have hki : k < i := (List.pairwise_append.1 hpw).2.2 k hk i (List.mem_cons_self ..)
      have hks : k < ops.size := by omega
      have hkp : ops[k]? = some ops[k] := Array.getElem?_eq_getElem hks
      refine ⟨?_, ops[k], hkp, ?_⟩
      · cases htk : totB ops k with
        | false => rfl
        | true => exact (hlate k hk ((totB_spec htk i hlt).2 hki)).elim
      · rcases hc.ahead i o ho k _ hki hkp with hw | ⟨h1, h2⟩
        · exact (hlate k hk hw).elim
        · exact ⟨h1, h2, hc.sel k _ hkp⟩
    have hti : s ≠ [] → totB ops i = false := fun hs => by
      cases hti : totB ops i with
      | false => rfl
      | true =>
        obtain ⟨k, hk⟩ := List.exists_mem_of_ne_nil s hs
        have hki : k < i := (List.pairwise_append.1 hpw).2.2 k hk i (List.mem_cons_self ..)
        exact (hlate k hk ((totB_spec hti k (by omega)).1 hki)).elim
    rw [hst] at h
    have hpull := wpS_pull i o t ho (hc.sel i o ho) s L0 σ a ⟨w, hT⟩ hti hpre h
    rw [← hrem] at hpull
    simp only [wpS, ho] at hpull
    have hcl' : Closed ops (listed.setIfInBounds i true) := fun j oj hj hl' e he hb => by
      by_cases hij : i = j
      · subst hij
        have : oj = o := Option.some.inj (hj.symm.trans ho)
        subst this
        exact getD_set_true (hall e he hb)
      · rw [getD_set_ne false hij] at hl'
        exact getD_set_true (hcl j oj hj hl' e he hb)
    have hlen : (rem ops (listed.setIfInBounds i true)).length ≤ fuel := by
      rw [hrem]; rw [hst] at hf; simp at hf ⊢; omega
    have next : ∀ (L1 σ' : List Ent) u w', HS F w0 w' (σ' ++ L1) → wpS P ops N F w0 sa hh K L1 σ' (rem ops (listed.setIfInBounds i true)) (a.put o.dst u) → wpAny P .any ops Q fuel (listed.setIfInBounds i true) (a.put o.dst u) w' := fun L1 σ' u w' hT' h' =>
      ih _ _ _ _ _ hT' (by simp [hl]) hcl' hlen h'
    unfold wpOp
    simp only [ho]
    by_cases ko0 : kdOf sa hh i = 0
    · rw [if_pos ko0] at hpull
      obtain ⟨v, hv, h2⟩ := hpull
      have h3 := hv w hT.drop2
      unfold Rd1 at h3
      split at h3 <;> rename_i hw
      · rw [if_pos hw]
        obtain ⟨u, h4, h5⟩ := h3
        refine .inl ?_
        unfold Oper.wp
        rw [h4]
        rw [← h5] at h2
        exact next L0 σ u w hT h2
      · rw [if_neg hw]
        rw [← h3] at h2
        exact next L0 σ _ w hT h2
    · rw [if_neg ko0] at hpull
      have hV : V1 P ops o a w fun u w' => ∃ L1 σ', HS F w0 w' (σ' ++ L1) ∧ wpS P ops N F w0 sa hh K L1 σ' (rem ops (listed.setIfInBounds i true)) (a.put o.dst u) := by
        by_cases ko1 : kdOf sa hh i = 1
        · rw [if_pos ko1] at hpull
          refine (hpull.1 w hT.drop2).mono fun u w' ⟨E, hK, hE, hb, hn⟩ => ?_
          have hx : HS F w0 w' (E ++ σ ++ L0) := by rw [List.append_assoc]; exact hT.beside hb hE hn
          exact ⟨L0, E ++ σ, hx, hpull.2 u E hK ⟨w', hx⟩⟩
        · rw [if_neg ko1] at hpull
          refine (hpull w hT).mono fun u w' hu => ?_
          split at hu
          · exact hu
          · obtain ⟨σ', h1, h2⟩ := hu; exact ⟨L0, σ', h1, h2⟩
      have nextA : ∀ u w', (∃ L1 σ', HS F w0 w' (σ' ++ L1) ∧ wpS P ops N F w0 sa hh K L1 σ' (rem ops (listed.setIfInBounds i true)) (a.put o.dst u)) → wpAny P .any ops Q fuel (listed.setIfInBounds i true) (a.put o.dst u) w' := fun u w' ⟨L1, σ', h1, h2⟩ => next L1 σ' u w' h1 h2
      unfold V1 at hV
      split at hV <;> rename_i hw
      · rw [if_pos hw]
        refine .inl ?_
        unfold Oper.wp
        revert hV
        cases (execOp a.eval o).run P w with
        | halt x w' => exact fun h => h.elim
        | ok n w' =>
          cases n <;> intro h <;> first | exact h.elim | exact nextA _ _ h | skip
          case enter f args =>
            refine Calls.mono h fun e w'' he => ?_
            obtain ⟨v, rfl, h1⟩ := he
            exact nextA v w'' h1
          case row row args => exact Rows.mono h fun u w'' hu => nextA u w'' hu
      · rw [if_neg hw]
        exact nextA _ w hV
/-- A region that draws its order. -/
theorem wp_region_S {id : Nat} {a : Act} {w : World} {Q : Exit → Act → World → Prop} (sa hh : List Nat) (K : Nat → Value → List Ent → Prop) {L0 : List Ent} (σ : List Ent) (hm : P.follows .mixedOrders = true) (hc : chkS ops sa hh = true) (h0 : HS F w0 w (σ ++ L0))
    (h : wpS P ops (fun a' w' => Q .normal a' w') F w0 sa hh K L0 σ (List.range ops.size) a) : (Code.region id ops true).wp P Q a w := by
  refine wp_region_any hm (wpAny_S (K := K) (N := fun a' w' => Q .normal a' w') (fun _ _ h => h) (chkS_spec hc) ops.size _ L0 σ a _ h0.drew (by simp) ?_ ?_ ?_)
  · intro j oj _ hl; rw [getD_replicate_false] at hl; cases hl
  · exact Nat.le_trans (List.length_filter_le _ _) (by simp)
  · have h1 : rem ops (Array.replicate ops.size false) = List.range ops.size := List.filter_eq_self.2 fun j hj => by
      simp [unl, Array.getD, List.mem_range.1 hj]
    rw [h1]; exact h
/-- One that reads. -/
theorem wpS_read {L0 σ : List Ent} {i : Nat} {o : Oper} {rest : List Nat} {a A : Act} (hi : ops[i]? = some o) (hk0 : kdOf sa hh i = 0) (hx : ∃ w, HS F w0 w L0) (hk : readK o.op = true) (h1 : ∀ w', HS F w0 w' L0 → wpList P ops (fun ex a' w'' => ex = .normal ∧ a' = A ∧ w'' = w') [o] a w') (h2 : wpS P ops N F w0 sa hh K L0 σ rest A) : wpS P ops N F w0 sa hh K L0 σ (i :: rest) a := by
  have hv : ∀ w', HS F w0 w' L0 → ∃ u, A = a.put o.dst u ∧ Rd1 P ops o a w' u := fun w' hw' => by
    have h := h1 w' hw'
    simp only [wpList] at h
    unfold Rd1
    split at h <;> rename_i hw
    · rcases h with h | ⟨_, _, _, hf, _⟩
      case inr => cases hf
      unfold Oper.wp at h
      cases hx : (execOp a.eval o).run P w' with
      | halt x w1 =>
        rw [hx] at h
        cases x <;> simp [Oper.upon] at h
      | ok n w1 =>
        obtain ⟨u, rfl⟩ := readK_value hk hx
        rw [hx] at h
        simp only [Oper.upon] at h
        obtain ⟨_, h3, h4⟩ := h
        subst h4
        exact ⟨u, h3.symm, by rw [if_pos hw]; exact ⟨u, rfl, rfl⟩⟩
    · exact ⟨undef, h.2.1.symm, by rw [if_neg hw]⟩
  obtain ⟨w, hw⟩ := hx
  obtain ⟨v, hA, _⟩ := hv w hw
  simp only [wpS, hi]
  rw [if_pos hk0]
  refine ⟨v, fun w' hw' => ?_, hA ▸ h2⟩
  obtain ⟨u, hu, hr⟩ := hv w' hw'
  have he : a.put o.dst u = a.put o.dst v := hu.symm.trans hA
  unfold Rd1 at *
  split at hr <;> rename_i hw
  · rw [if_pos hw]; obtain ⟨x, h3, h4⟩ := hr; exact ⟨x, h3, h4.trans he⟩
  · rw [if_neg hw]; exact hr.trans he
/-- What stands behind a soft act. -/
structure SoftP (F : Nat → Prop) (w0 : World) (K : Nat → Value → List Ent → Prop) (i : Nat) (L0 : List Ent) (t : Nat) (a : Act) (w : World) (ex : Exit) (a' : Act) (w' : World) : Prop where
  ex : ex = .normal
  defers : a'.defers = a.defers
  val : ∃ u E, a' = a.put (some t) u ∧ K i u E ∧ HS F w0 w' (E ++ L0) ∧ Below w.heap.size w w' ∧ ∀ e ∈ E, ∀ k, e.F k → w.heap.size ≤ k
theorem SoftP.mk' {i t : Nat} {L0 : List Ent} {a a' : Act} {w w' : World} (u : Value) (E : List Ent) (ha : a' = a.put (some t) u) (hK : K i u E) (hE : HS F w0 w' (E ++ L0)) (hb : Below w.heap.size w w') (hn : ∀ e ∈ E, ∀ k, e.F k → w.heap.size ≤ k) : SoftP F w0 K i L0 t a w .normal a' w' :=
  ⟨rfl, by rw [ha, put_defers], u, E, ha, hK, hE, hb, hn⟩
theorem wpS_soft {L0 σ : List Ent} {i t : Nat} {o : Oper} {rest : List Nat} {a : Act} (hi : ops[i]? = some o) (hk1 : kdOf sa hh i = 1) (hd : o.dst = some t) (ht : t < a.tmps.size) (h1 : ∀ w', HS F w0 w' L0 → wpList P ops (SoftP F w0 K i L0 t a w') [o] a w')
    (h2 : ∀ u E, K i u E → wpS P ops N F w0 sa hh K L0 (E ++ σ) rest (a.put (some t) u)) : wpS P ops N F w0 sa hh K L0 σ (i :: rest) a := by
  simp only [wpS, hi]
  rw [if_neg (by rw [hk1]; decide), if_pos hk1, hd]
  refine ⟨fun w' hw' => ?_, fun u E hK _ => h2 u E hK⟩
  refine (V1_of (K := fun a' w'' => ∃ u E, a' = a.put (some t) u ∧ K i u E ∧ HS F w0 w'' (E ++ L0) ∧ Below w'.heap.size w' w'' ∧ ∀ e ∈ E, ∀ k, e.F k → w'.heap.size ≤ k) ?_).mono fun u w'' hu => ?_
  · have h := h1 w' hw'
    have he : SoftP F w0 K i L0 t a w' = fun ex a' w'' => ex = .normal ∧ a'.defers = a.defers ∧ ∃ u E, a' = a.put (some t) u ∧ K i u E ∧ HS F w0 w'' (E ++ L0) ∧ Below w'.heap.size w' w'' ∧ ∀ e ∈ E, ∀ k, e.F k → w'.heap.size ≤ k := by
      funext ex a' w''
      exact propext ⟨fun h => ⟨h.1, h.2, h.3⟩, fun ⟨h1, h2, h3⟩ => ⟨h1, h2, h3⟩⟩
    rwa [he] at h
  · obtain ⟨u', E, he, hK, r⟩ := hu
    rw [hd] at he
    have h4 := put_same a t u ht
    rw [he, put_same a t u' ht] at h4
    injection h4 with h4
    subst h4
    exact ⟨E, hK, r⟩
/-- What stands behind a hard act. -/
structure HardP (P : Program) (ops : Array Oper) (N : Act → World → Prop) (F : Nat → Prop) (w0 : World) (sa hh : List Nat) (K : Nat → Value → List Ent → Prop) (L0 : List Ent) (rest : List Nat) (a : Act) (ex : Exit) (a' : Act) (w' : World) : Prop where
  ex : ex = .normal
  defers : a'.defers = a.defers
  val : ∃ σ', HS F w0 w' (σ' ++ L0) ∧ wpS P ops N F w0 sa hh K L0 σ' rest a'
structure TotP (P : Program) (ops : Array Oper) (N : Act → World → Prop) (F : Nat → Prop) (w0 : World) (sa hh : List Nat) (K : Nat → Value → List Ent → Prop) (rest : List Nat) (a : Act) (ex : Exit) (a' : Act) (w' : World) : Prop where
  ex : ex = .normal
  defers : a'.defers = a.defers
  val : ∃ L1 σ', HS F w0 w' (σ' ++ L1) ∧ wpS P ops N F w0 sa hh K L1 σ' rest a'
theorem HardP.mk' {L0 : List Ent} {rest : List Nat} {a a' : Act} {w' : World} (σ' : List Ent) (hd : a'.defers = a.defers) (h1 : HS F w0 w' (σ' ++ L0)) (h2 : wpS P ops N F w0 sa hh K L0 σ' rest a') : HardP P ops N F w0 sa hh K L0 rest a .normal a' w' := ⟨rfl, hd, σ', h1, h2⟩
theorem TotP.mk' {rest : List Nat} {a a' : Act} {w' : World} (L1 : List Ent) (hd : a'.defers = a.defers) (h1 : HS F w0 w' L1) (h2 : wpS P ops N F w0 sa hh K L1 [] rest a') : TotP P ops N F w0 sa hh K rest a .normal a' w' := ⟨rfl, hd, L1, [], h1, h2⟩
theorem wpS_hard {L0 σ : List Ent} {i : Nat} {o : Oper} {rest : List Nat} {a : Act} (hi : ops[i]? = some o) (hk2 : kdOf sa hh i = 2) (h1 : ∀ w, HS F w0 w (σ ++ L0) → wpList P ops (HardP P ops N F w0 sa hh K L0 rest a) [o] a w) : wpS P ops N F w0 sa hh K L0 σ (i :: rest) a := by
  simp only [wpS, hi]
  rw [if_neg (by rw [hk2]; decide), if_neg (by rw [hk2]; decide)]
  intro w hw
  refine (V1_of (K := fun a' w' => ∃ σ', HS F w0 w' (σ' ++ L0) ∧ wpS P ops N F w0 sa hh K L0 σ' rest a') ?_).mono fun u w' hu => ?_
  · have h := h1 w hw
    have he : HardP P ops N F w0 sa hh K L0 rest a = fun ex a' w' => ex = .normal ∧ a'.defers = a.defers ∧ ∃ σ', HS F w0 w' (σ' ++ L0) ∧ wpS P ops N F w0 sa hh K L0 σ' rest a' := by
      funext ex a' w''
      exact propext ⟨fun h => ⟨h.1, h.2, h.3⟩, fun ⟨h1, h2, h3⟩ => ⟨h1, h2, h3⟩⟩
    rwa [he] at h
  · split
    · obtain ⟨σ', h1, h2⟩ := hu; exact ⟨L0, σ', h1, h2⟩
    · exact hu
theorem wpS_tot {L0 σ : List Ent} {i : Nat} {o : Oper} {rest : List Nat} {a : Act} (hi : ops[i]? = some o) (hk2 : kdOf sa hh i = 2) (ht : totB ops i = true) (h1 : ∀ w, HS F w0 w (σ ++ L0) → wpList P ops (TotP P ops N F w0 sa hh K rest a) [o] a w) : wpS P ops N F w0 sa hh K L0 σ (i :: rest) a := by
  simp only [wpS, hi]
  rw [if_neg (by rw [hk2]; decide), if_neg (by rw [hk2]; decide)]
  intro w hw
  refine (V1_of (K := fun a' w' => ∃ L1 σ', HS F w0 w' (σ' ++ L1) ∧ wpS P ops N F w0 sa hh K L1 σ' rest a') ?_).mono fun u w' hu => ?_
  · have h := h1 w hw
    have he : TotP P ops N F w0 sa hh K rest a = fun ex a' w' => ex = .normal ∧ a'.defers = a.defers ∧ ∃ L1 σ', HS F w0 w' (σ' ++ L1) ∧ wpS P ops N F w0 sa hh K L1 σ' rest a' := by
      funext ex a' w''
      exact propext ⟨fun h => ⟨h.1, h.2, h.3⟩, fun ⟨h1, h2, h3⟩ => ⟨h1, h2, h3⟩⟩
    rwa [he] at h
  · rw [if_pos ht]; exact hu
theorem wpS_end {L0 σ : List Ent} {a : Act} (h : ∀ w, HS F w0 w (σ ++ L0) → N a w) : wpS P ops N F w0 sa hh K L0 σ [] a := h
end
end Go.Cour
/- courierref16.All; SamePackets. -/
namespace Go.Proofs.YtenjpmegnjdobaaDoor
open Go.RowKit Go.Cour
theorem bytesOk_piece {xs : List Int} {q i : Int} (h : bytesOk xs) : bytesOk (pieceOf xs q i) := by
  unfold pieceOf
  split
  · exact fun j => by simp [rd]
  · exact bytesOk_take (bytesOk_drop h _) _
set_option maxHeartbeats 800000 in
set_option maxRecDepth 100000 in
theorem all16_calls (key xs : List Int) (q : Int) (A : Option Addr) (m c : Nat) (w : World) (hk : key.length = 32) (rk : bytesOk key)
    (rx : bytesOk xs) (hm : m = xs.length) (hA : A = none → c = 0) (hc : m ≤ c) (hr : Rd w A .u8 xs) (hl : xs.length ≤ 100000) (hq : -1000000 ≤ q ∧ q ≤ 1000000) :
    Calls Tryd.prog 8 #[.agg (ints .u8 key).toArray, .slice A m c, .int .i64 q] w fun e w' => ∃ v, e = .returned v ∧ OwnL w' w.heap.size 24 5 .u8 v (allTexts key xs q) ∧ Below w.heap.size w w' := by
  subst hm
  obtain ⟨N, hN⟩ : ∃ N : Nat, Hd (countI xs.length q = (N : Int)) := ⟨(countI xs.length q).toNat, ⟨by have := (countI_bounds xs.length q).1; omega⟩⟩
  have hNb : 1 ≤ N ∧ N ≤ 100000 := by have := countI_bounds xs.length q; have := hN.out; omega
  have hAll : Hd (allTexts key xs q = allTo key xs q N N) := ⟨by rw [allTexts, hN.out]; rfl⟩
  obtain ⟨zs, hzs⟩ : ∃ zs : List Int, Hd (zs = xs) := ⟨xs, ⟨rfl⟩⟩
  go_enter Tryd.func8, Tryd.ntmps8
  go_wp2_with (first
    | (refine box_blk rfl 23 _ rfl _ rfl (ints .u8 key) rfl ?_; intro g4 w1 hg4 hb4 hB1 hs1; clear hg4 hs1)
    | (go_at_call 10; refine (count16_calls _ _ _ (by omega) hq).mono ?_; rintro e w2 ⟨rfl, rfl⟩; rw [hN.out])
    | fail)
  go_loopg [7, 9] N (fun kq v8 v15 wr => ∃ i : Nat, i ≤ N ∧ v15 = .int .i64 i ∧ Hd (kq + i = N) ∧ OwnL wr w.heap.size 24 5 .u8 v8 (allTo key xs q N i) ∧ Blk wr g4 23 (ints .u8 key) ∧ Below w.heap.size w wr)
  case atStart => exact ⟨0, by omega, rfl, hid (by omega), OwnL.nil _ _ _ _ _, hb4, hB1⟩
  case round =>
    clear hb4 hB1
    obtain ⟨i, hi, rfl, hgq, ho, hb4, hB⟩ := hrel
    by_cases hlt : i < N
    · have hlt' : (i : Int) < N := by omega
      obtain ⟨L, hL⟩ : ∃ L, ((i : Int) == (N : Int) - 1) = L := ⟨_, rfl⟩
      have HL := hid hL
      obtain ⟨TX, hTX⟩ : ∃ TX, Hd (ssealText key i L (pieceOf xs q i) = TX) := ⟨_, ⟨rfl⟩⟩
      go_wp2_with fail
      refine wp_region_factsU (ix := [[0], [1], [2], [3], [4], [5], [6], [7], [8], [9], [10], [11], [12], [13], [14], [15]]) (S := fun w' => Blk w' g4 23 (ints .u8 key) ∧ Below w.heap.size w w')
        (R := fun iO w1 w2 => if iO = 14 then w1.grownBy w2 u7.ownBlock else (Below w1.heap.size w1 w2))
        (U := fun iO w1 => match iO with
          | 14 => OwnL w1 w.heap.size 24 5 .u8 u7 (allTo key xs q N i)
          | _ => True)
        (kill := fun jO => match jO with
          | 11 => some 14
          | 12 => some 14
          | 13 => some 14
          | _ => none)
        (p := fun jO vs w' => match jO with
          | 0 => vs 0 = u7
          | 1 => vs 1 = .agg (ints .u8 key).toArray
          | 2 => vs 2 = .int .i64 i
          | 3 => vs 3 = .int .u32 i
          | 4 => vs 4 = .int .i64 i
          | 5 => vs 5 = .int .i64 N
          | 6 => vs 6 = .int .i64 ((N : Int) - 1)
          | 7 => vs 7 = .bool L
          | 8 => vs 8 = .slice A xs.length c
          | 9 => vs 9 = .int .i64 q
          | 10 => vs 10 = .int .i64 i
          | 11 => Own w' w.heap.size 5 .u8 (vs 11) (pieceOf xs q i)
          | 12 => Own w' w.heap.size 5 .u8 (vs 12) TX
          | 13 => ∃ g, vs 13 = .slice (some ⟨g, 0, none⟩) 1 1 ∧ ∃ u, Blk w' g 24 [u] ∧ Own w' w.heap.size 5 .u8 u TX
          | 14 => OwnL w' w.heap.size 24 5 .u8 (vs 14) (allTo key xs q N (i + 1))
          | 15 => OwnL w' w.heap.size 24 5 .u8 (vs 15) (allTo key xs q N (i + 1))
          | _ => True)
        (ks := [(11, 12), (12, 13)])
        (hm := by kernel_rfl) (hc := by kernel_rfl) ?_ ?_ ?_ ?_ ?_ ?_
      · exact ⟨hb4.drew, below_drewN hB 1⟩
      · intro iO jO vs w1 w2 hij hw hkl hR h
        have hB : iO ≠ 14 → Below w1.heap.size w1 w2 := fun h14 => by rw [if_neg h14] at hR; exact hR
        match jO with
        | 0 | 1 | 2 | 3 | 4 | 5 | 6 | 7 | 8 | 9 | 10 => exact h
        | 11 => exact Own.below h (hB (by rintro rfl; exact hkl rfl))
        | 12 => exact Own.below h (hB (by rintro rfl; exact hkl rfl))
        | 13 => obtain ⟨g, h1, u, h2, h3⟩ := h; exact ⟨g, h1, u, h2.belowAll (hB (by rintro rfl; exact hkl rfl)), h3.below (hB (by rintro rfl; exact hkl rfl))⟩
        | 14 => exact OwnL.below h (hB (by rintro rfl; exact hij rfl))
        | 15 => exact OwnL.below h (hB (by rintro rfl; exact absurd (Eq.trans (by kernel_rfl : true = _) hw) (by decide)))
        | nO + 16 => trivial
      · intro jO
        match jO with
        | 14 => exact ho.drew
        | 0 | 1 | 2 | 3 | 4 | 5 | 6 | 7 | 8 | 9 | 10 | 11 | 12 | 13 | 15 | nO + 16 => trivial
      · intro iO jO w1 w2 hij hw hR h
        have hB : iO ≠ 14 → Below w1.heap.size w1 w2 := fun h14 => by rw [if_neg h14] at hR; exact hR
        match jO with
        | 14 => exact OwnL.below h (hB (fun he => hij he))
        | 0 | 1 | 2 | 3 | 4 | 5 | 6 | 7 | 8 | 9 | 10 | 11 | 12 | 13 | 15 | nO + 16 => trivial
      · refine ⟨?_, ?_, ?_, ?_, ?_, ?_, ?_, ?_, ?_, ?_, ?_, ?_, ?_, ?_, ?_, ?_, trivial⟩
        · (intro vs w2 hS hU hd; simp [Region.binds, Fact.at] at hd; simp only [fill, List.take_succ_cons, List.take_zero, Act.put, List.setIfInBounds_toArray, List.set_cons_zero, List.set_cons_succ, Nat.reduceAdd])
          try simp only [hd]
          go_wp2_with fail
          exact ⟨rfl, rfl, hS, Below.refl _ _⟩
        · (intro vs w2 hS hU hd; simp [Region.binds, Fact.at] at hd; simp only [fill, List.take_succ_cons, List.take_zero, Act.put, List.setIfInBounds_toArray, List.set_cons_zero, List.set_cons_succ, Nat.reduceAdd])
          try simp only [hd]
          go_wp2_with (first
            | (refine load_blk rfl 23 _ rfl g4 rfl 23 _ hS.1 32 5 arr23 (by simp [ints, hk]) info23 ?_)
            | fail)
          exact ⟨rfl, rfl, hS, Below.refl _ _⟩
        · (intro vs w2 hS hU hd; simp [Region.binds, Fact.at] at hd; simp only [fill, List.take_succ_cons, List.take_zero, Act.put, List.setIfInBounds_toArray, List.set_cons_zero, List.set_cons_succ, Nat.reduceAdd])
          try simp only [hd]
          go_wp2_with fail
          exact ⟨rfl, rfl, hS, Below.refl _ _⟩
        · (intro vs w2 hS hU hd; simp [Region.binds, Fact.at] at hd; simp only [fill, List.take_succ_cons, List.take_zero, Act.put, List.setIfInBounds_toArray, List.set_cons_zero, List.set_cons_succ, Nat.reduceAdd])
          simp only [hd]
          go_wp2_with fail
          exact ⟨rfl, rfl, hS, Below.refl _ _⟩
        · (intro vs w2 hS hU hd; simp [Region.binds, Fact.at] at hd; simp only [fill, List.take_succ_cons, List.take_zero, Act.put, List.setIfInBounds_toArray, List.set_cons_zero, List.set_cons_succ, Nat.reduceAdd])
          try simp only [hd]
          go_wp2_with fail
          exact ⟨rfl, rfl, hS, Below.refl _ _⟩
        · (intro vs w2 hS hU hd; simp [Region.binds, Fact.at] at hd; simp only [fill, List.take_succ_cons, List.take_zero, Act.put, List.setIfInBounds_toArray, List.set_cons_zero, List.set_cons_succ, Nat.reduceAdd])
          try simp only [hd]
          go_wp2_with fail
          exact ⟨rfl, rfl, hS, Below.refl _ _⟩
        · (intro vs w2 hS hU hd; simp [Region.binds, Fact.at] at hd; simp only [fill, List.take_succ_cons, List.take_zero, Act.put, List.setIfInBounds_toArray, List.set_cons_zero, List.set_cons_succ, Nat.reduceAdd])
          simp only [hd]
          go_wp2_with fail
          exact ⟨rfl, rfl, hS, Below.refl _ _⟩
        · (intro vs w2 hS hU hd; simp [Region.binds, Fact.at] at hd; simp only [fill, List.take_succ_cons, List.take_zero, Act.put, List.setIfInBounds_toArray, List.set_cons_zero, List.set_cons_succ, Nat.reduceAdd])
          simp only [hd]
          go_wp2_with fail
          exact ⟨rfl, rfl, hS, Below.refl _ _⟩
        · (intro vs w2 hS hU hd; simp [Region.binds, Fact.at] at hd; simp only [fill, List.take_succ_cons, List.take_zero, Act.put, List.setIfInBounds_toArray, List.set_cons_zero, List.set_cons_succ, Nat.reduceAdd])
          try simp only [hd]
          go_wp2_with fail
          exact ⟨rfl, rfl, hS, Below.refl _ _⟩
        · (intro vs w2 hS hU hd; simp [Region.binds, Fact.at] at hd; simp only [fill, List.take_succ_cons, List.take_zero, Act.put, List.setIfInBounds_toArray, List.set_cons_zero, List.set_cons_succ, Nat.reduceAdd])
          try simp only [hd]
          go_wp2_with fail
          exact ⟨rfl, rfl, hS, Below.refl _ _⟩
        · (intro vs w2 hS hU hd; simp [Region.binds, Fact.at] at hd; simp only [fill, List.take_succ_cons, List.take_zero, Act.put, List.setIfInBounds_toArray, List.set_cons_zero, List.set_cons_succ, Nat.reduceAdd])
          try simp only [hd]
          go_wp2_with fail
          exact ⟨rfl, rfl, hS, Below.refl _ _⟩
        · (intro vs w2 hS hU hd; simp [Region.binds, Fact.at] at hd; simp only [fill, List.take_succ_cons, List.take_zero, Act.put, List.setIfInBounds_toArray, List.set_cons_zero, List.set_cons_succ, Nat.reduceAdd])
          simp only [hd]
          go_wp2_with (first
            | (go_at_call 13; refine (piece16_calls xs A _ c q i w2 rfl hc (hr.below hS.2) hl hq (by omega)).mono ?_; rintro e w3 ⟨v, rfl, ho9, hB9⟩)
            | fail)
          exact ⟨rfl, ho9.lower hS.2.size, ⟨hS.1.belowAll hB9, below_then hS.2 hS.2.size hB9⟩, hB9⟩
        · (intro vs w2 hS hU hd; simp [Region.binds, Fact.at] at hd; simp only [fill, List.take_succ_cons, List.take_zero, Act.put, List.setIfInBounds_toArray, List.set_cons_zero, List.set_cons_succ, Nat.reduceAdd])
          obtain ⟨h1, h3, h7, h11⟩ := hd
          have hpl := Nat.le_trans (pieceOf_le xs q i) hl
          obtain ⟨ps, hps⟩ : ∃ ps, Hd (ps = pieceOf xs q i) := ⟨_, ⟨rfl⟩⟩
          rw [← hps.out] at h11 hpl
          have rps : bytesOk ps := by rw [hps.out]; exact bytesOk_piece rx
          obtain ⟨A1, c1, hv1, hc1, hA1, hr1⟩ := h11.parts
          simp only [h1, h3, h7, hv1]
          go_wp2_with (first
            | (go_at_call 16; refine (sseal16_calls key i L ps A1 _ c1 w2 hk rk (by omega) rfl hr1 rps hpl).mono ?_; rintro e w3 ⟨v, rfl, ho9, hB9⟩; rw [hps.out, hTX.out] at ho9)
            | fail)
          exact ⟨rfl, ho9.lower hS.2.size, ⟨hS.1.belowAll hB9, below_then hS.2 hS.2.size hB9⟩, hB9⟩
        · (intro vs w2 hS hU hd; simp [Region.binds, Fact.at] at hd; simp only [fill, List.take_succ_cons, List.take_zero, Act.put, List.setIfInBounds_toArray, List.set_cons_zero, List.set_cons_succ, Nat.reduceAdd])
          obtain ⟨A1, c1, hv1, hc1, hA1, hr1⟩ := hd.parts
          go_wp2_with (first
            | (refine literal_one rfl 28 24 _ rfl (vs 12) rfl (by rw [hv1]; rfl) undLL sizeBytes zeroBytes ?_; intro g w3 hg9 hb9 hB9 hs9)
            | fail)
          exact ⟨rfl, ⟨g, rfl, vs 12, hb9, hd.below hB9⟩, ⟨hS.1.belowAll hB9, below_then hS.2 hS.2.size hB9⟩, hB9⟩
        · (intro vs w2 hS hU hd; simp [Region.binds, Fact.at] at hd; simp only [fill, List.take_succ_cons, List.take_zero, Act.put, List.setIfInBounds_toArray, List.set_cons_zero, List.set_cons_succ, Nat.reduceAdd])
          obtain ⟨h0, ⟨g, h1, u, h2, h3⟩, _⟩ := hd
          have hU' : OwnL w2 w.heap.size 24 5 .u8 u7 (allTo key xs q N i) := hU
          simp only [h0, h1]
          go_wp2_with (first
            | (at_builtin; refine append_row rfl (.tmp 19) (.tmp 32) 28 rfl w.heap.size 24 5 .u8 24 undLL infoLL (by decide) u7 (allTo key xs q N i) rfl hU' g u TX rfl h2 h3 (by rw [allTo_length]; omega) (by rw [allTo_length]; omega) hS.2.size ?_; intro v9 w3 ho9 hg9; rw [← hTX.out, ← HL.out, ← allTo_succ] at ho9)
            | fail)
          obtain ⟨cs9, hv9, _⟩ := id hU'
          exact ⟨rfl, ho9, ⟨hS.1.grown hg9 (hv9.ne_blk hS.1 (by decide)), hU'.grown_below hS.2 hg9 hS.2.size (Nat.le_refl _)⟩, hg9⟩
        · (intro vs w2 hS hU hd; simp [Region.binds, Fact.at] at hd; simp only [fill, List.take_succ_cons, List.take_zero, Act.put, List.setIfInBounds_toArray, List.set_cons_zero, List.set_cons_succ, Nat.reduceAdd])
          go_wp2_with fail
          exact ⟨rfl, hd.1, hS, Below.refl _ _⟩
      · intro vs wq hf hS
        have h15 : OwnL wq w.heap.size 24 5 .u8 (vs 15) (allTo key xs q N (i + 1)) := hf 15 (by simp) rfl
        simp only [fill, Act.put, List.setIfInBounds_toArray, List.set_cons_zero, List.set_cons_succ, Nat.reduceAdd]
        clear hf hL
        go_wp2_with fail
        go_roundg (gk - 1)
        case measure => have := hgq.out; omega
        case rel => exact ⟨i + 1, by omega, by go_num, hid (by have := hgq.out; omega), h15, hS.1, hS.2⟩
    · obtain rfl : i = N := by omega
      have hlt' : ¬ ((i : Int) < i) := by omega
      go_wp2_with fail
      go_ret
      refine ⟨_, rfl, ?_, hB⟩
      rw [hAll.out]
      exact ho
/-- Texts, listed. -/
def PRd (w : World) (A : Option Addr) (xss : List (List Int)) : Prop := xss = [] ∨ ∃ g o, A = some ⟨g, o, none⟩ ∧ ∀ (i : Nat) (X : List Int), xss[i]? = some X → ∃ Ai ci, w.cell? ⟨g, o + i, none⟩ = some (.slice Ai X.length ci) ∧ Rd w Ai .u8 X
theorem PRd.below {w w' : World} {A : Option Addr} {xss : List (List Int)} (h : PRd w A xss) (hb : Below w.heap.size w w') : PRd w' A xss := by
  rcases h with h | ⟨g, o, h1, h2⟩
  · exact .inl h
  · refine .inr ⟨g, o, h1, fun i X hi => ?_⟩
    obtain ⟨Ai, ci, h3, h4⟩ := h2 i X hi
    exact ⟨Ai, ci, (hb.cell (lt_of_cell h3)).trans h3, h4.below hb⟩
theorem PRd.at {w : World} {A : Option Addr} {xss : List (List Int)} (h : PRd w A xss) (i : Nat) (hi : i < xss.length) : ∃ g o X Ai ci, A = some ⟨g, o, none⟩ ∧ xss[i]? = some X ∧ w.cell? ⟨g, o + i, none⟩ = some (.slice Ai X.length ci) ∧ Rd w Ai .u8 X := by
  rcases h with h | ⟨g, o, h1, h2⟩
  · subst h; simp at hi
  · obtain ⟨Ai, ci, h3, h4⟩ := h2 i _ (List.getElem?_eq_getElem hi)
    exact ⟨g, o, _, Ai, ci, h1, List.getElem?_eq_getElem hi, h3, h4⟩
theorem eq_of_all {xss yss : List (List Int)} (hl : xss.length = yss.length) (h : ∀ j, j < xss.length → xss[j]? = yss[j]?) : xss = yss := by
  apply List.ext_getElem? 
  intro j
  by_cases hj : j < xss.length
  · exact h j hj
  · rw [List.getElem?_eq_none (by omega), List.getElem?_eq_none (by omega)]
set_option maxHeartbeats 1000000 in
set_option maxRecDepth 100000 in
theorem samePackets_calls (xss yss : List (List Int)) (A B : Option Addr) (n m c d : Nat) (w : World) (hn : xss.length = n) (hm : yss.length = m) (hx : PRd w A xss) (hy : PRd w B yss) (hn2 : n ≤ 1000000) (hm2 : m ≤ 1000000) (hlx : ∀ X ∈ xss, X.length ≤ 1000000) (hly : ∀ Y ∈ yss, Y.length ≤ 1000000) :
    Calls Tryd.prog 14 #[.slice A n c, .slice B m d] w fun e w' => e = .returned (.bool (decide (xss = yss))) ∧ Below w.heap.size w w' := by
  have HN := hid hn
  have HM := hid hm
  have HX := hid hx
  have HY := hid hy
  have HLX := hid hlx
  have HLY := hid hly
  have hS := HS.start NoF w
  clear hn hm hx hy hlx hly
  by_cases hnm : n = m
  · subst hnm
    go_enter Tryd.func14, Tryd.ntmps14
    go_wp2_with fail
    go_loopg [5] (n + 1) (fun kq v5 wr => ∃ i : Nat, i ≤ n ∧ v5 = .int .i64 i ∧ Hd (kq + i = n + 1) ∧ Hd (∀ j, j < i → xss[j]? = yss[j]?) ∧ HS NoF w wr [])
    case atStart => exact ⟨0, Nat.zero_le _, rfl, hid (by omega), hid (fun j hj => by omega), hS⟩
    case round =>
      clear hS
      obtain ⟨i, hi, rfl, hq, hall, hS⟩ := hrel
      by_cases hlt : i < n
      · obtain ⟨gx, ox, X, Ax, cx, hAx, hX, CX, RX⟩ := HX.out.at i (by rw [HN.out]; exact hlt)
        obtain ⟨gy, oy, Y, Ay, cy, hAy, hY, CY, RY⟩ := HY.out.at i (by rw [HM.out]; exact hlt)
        subst hAx hAy
        have hlt2 : (i : Int) < n := by omega
        have CX := hid CX
        have CY := hid CY
        have RX := hid RX
        have RY := hid RY
        have hX := hid hX
        have hY := hid hY
        have hlX := HLX.out X (List.mem_of_getElem? hX.out)
        have hlY := HLY.out Y (List.mem_of_getElem? hY.out)
        obtain ⟨nx, hnx⟩ : ∃ nx, Hd (X.length = nx) := ⟨_, hid rfl⟩
        obtain ⟨ny, hny⟩ : ∃ ny, Hd (Y.length = ny) := ⟨_, hid rfl⟩
        rw [hnx.out] at CX hlX
        rw [hny.out] at CY hlY
        obtain ⟨Q, hQ⟩ : ∃ Q : Bool, Hd (decide (X = Y) = Q) := ⟨_, hid rfl⟩
        try go_wp2_with fail
        refine wp_region_S (F := NoF) (w0 := w) (L0 := []) [8] []
          (fun iK u E => match iK with
            | 8 => u = .bool Q ∧ E = []
            | _ => False)
          ([]) (by kernel_rfl) (by kernel_rfl) hS ?_
        show wpS _ _ _ _ _ _ _ _ _ _ [0, 1, 2, 3, 4, 5, 6, 7, 8, 9] _
        apply wpS_read (i := 0) rfl rfl ⟨_, hS⟩ rfl -- Op.move t0
        · intro w' hT'
          simp only [List.getElem_toArray, List.getElem_cons_zero, List.getElem_cons_succ]
          go_wp2_with fail
          first | exact ⟨rfl, rfl, rfl⟩ | rfl
        apply wpS_read (i := 1) rfl rfl ⟨_, hS⟩ rfl -- Op.move t5
        · intro w' hT'
          simp only [List.getElem_toArray, List.getElem_cons_zero, List.getElem_cons_succ]
          go_wp2_with fail
          first | exact ⟨rfl, rfl, rfl⟩ | rfl
        apply wpS_read (i := 2) rfl rfl ⟨_, hS⟩ rfl -- Op.indexAddr 28 t18 t19
        · intro w' hT'
          simp only [List.getElem_toArray, List.getElem_cons_zero, List.getElem_cons_succ]
          go_wp2_with fail
          first | exact ⟨rfl, rfl, rfl⟩ | rfl
        apply wpS_read (i := 3) rfl rfl ⟨_, hS⟩ rfl -- Op.load 24 t20
        · intro w' hT'
          simp only [List.getElem_toArray, List.getElem_cons_zero, List.getElem_cons_succ]
          have cx := hT'.oldCell CX.out (fun h => h)
          have cy := hT'.oldCell CY.out (fun h => h)
          go_wp2_with fail
          first | exact ⟨rfl, rfl, rfl⟩ | rfl
        apply wpS_read (i := 4) rfl rfl ⟨_, hS⟩ rfl -- Op.move t1
        · intro w' hT'
          simp only [List.getElem_toArray, List.getElem_cons_zero, List.getElem_cons_succ]
          go_wp2_with fail
          first | exact ⟨rfl, rfl, rfl⟩ | rfl
        apply wpS_read (i := 5) rfl rfl ⟨_, hS⟩ rfl -- Op.move t5
        · intro w' hT'
          simp only [List.getElem_toArray, List.getElem_cons_zero, List.getElem_cons_succ]
          go_wp2_with fail
          first | exact ⟨rfl, rfl, rfl⟩ | rfl
        apply wpS_read (i := 6) rfl rfl ⟨_, hS⟩ rfl -- Op.indexAddr 28 t22 t23
        · intro w' hT'
          simp only [List.getElem_toArray, List.getElem_cons_zero, List.getElem_cons_succ]
          go_wp2_with fail
          first | exact ⟨rfl, rfl, rfl⟩ | rfl
        apply wpS_read (i := 7) rfl rfl ⟨_, hS⟩ rfl -- Op.load 24 t24
        · intro w' hT'
          simp only [List.getElem_toArray, List.getElem_cons_zero, List.getElem_cons_succ]
          have cx := hT'.oldCell CX.out (fun h => h)
          have cy := hT'.oldCell CY.out (fun h => h)
          go_wp2_with fail
          first | exact ⟨rfl, rfl, rfl⟩ | rfl
        refine wpS_soft (i := 8) rfl rfl rfl (Nat.le_of_ble_eq_true rfl) ?_ ?_ -- Op.call { value (Operand.func 11), args := #[t21, t25], argTypes := 
        · intro w' hT
          simp only [List.getElem_toArray, List.getElem_cons_zero, List.getElem_cons_succ]
          go_wp2_with (first
            | (go_at_call 11; refine (same_calls X Y Ax Ay cx cy nx ny _ hnx.out.symm hny.out.symm (hT.oldRd RX.out (fun _ _ _ h => h)) (hT.oldRd RY.out (fun _ _ _ h => h)) (by rw [hnx.out]; omega) (by rw [hny.out]; omega)).mono ?_; rintro e wq ⟨rfl, nq, hwq⟩; rw [hQ.out])
            | fail)
          exact SoftP.mk' (.bool Q) ([]) rfl (⟨rfl, rfl⟩) (hT.drewN nq) (below_drewN (Below.refl _ _) nq) (fun _ h => by cases h)
        intro u8 E8 hK8
        obtain ⟨rfl, rfl⟩ := hK8
        simp only [Act.put, List.setIfInBounds_toArray, List.set_cons_zero, List.set_cons_succ]
        apply wpS_read (i := 9) rfl rfl ⟨_, hS⟩ rfl -- Op.assign t26
        · intro w' hT'
          simp only [List.getElem_toArray, List.getElem_cons_zero, List.getElem_cons_succ]
          go_wp2_with fail
          first | exact ⟨rfl, rfl, rfl⟩ | rfl
        refine wpS_end ?_
        intro wz hT
        try dsimp only
        clear hS
        have hS : HS NoF w wz [] := hT
        clear hT
        cases Q
        · have hne : Hd (decide (xss = yss) = false) := hid (decide_eq_false fun he => by
            have h1 := hX.out
            rw [he, hY.out] at h1
            injection h1 with h1
            have h2 := hQ.out
            rw [h1, decide_eq_true rfl] at h2
            cases h2)
          go_wp2_with fail
          go_ret
          exact ⟨by rw [hne.out]; rfl, hS.bel⟩
        · go_wp2_with fail
          go_roundg (gk - 1)
          case measure => have := hq.out; omega
          case rel => exact ⟨i + 1, by omega, by go_num, hid (by have := hq.out; omega), hid (fun j hj => by
            by_cases hji : j = i
            · subst hji; rw [hX.out, hY.out, of_decide_eq_true hQ.out]
            · exact hall.out j (by omega)), hS⟩
      · have hin : i = n := by omega
        subst hin
        have hlt2 : ¬ (i : Int) < i := by omega
        have he : Hd (decide (xss = yss) = true) := hid (decide_eq_true (eq_of_all (by rw [HN.out, HM.out]) (fun j hj => hall.out j (by rw [← HN.out]; exact hj))))
        go_wp2_with fail
        go_ret
        exact ⟨by rw [he.out]; rfl, hS.bel⟩
  · have hnm2 : ¬ (n : Int) = m := by omega
    have hne : Hd (decide (xss = yss) = false) := hid (decide_eq_false fun he => hnm (by rw [← HN.out, ← HM.out, he]))
    rw [hne.out]
    go_enter Tryd.func14, Tryd.ntmps14
    go_wp2_with fail
    go_ret
    exact ⟨rfl, hS.bel⟩
theorem ownL_prd {w : World} {b : Nat} {e : TypeId} {v : Value} {xss : List (List Int)} (h : OwnL w b e 5 .u8 v xss) : ∃ A c, v = .slice A xss.length c ∧ xss.length ≤ c ∧ PRd w A xss := by
  obtain ⟨cs, hv, hl, hr⟩ := h
  obtain ⟨A, c, rfl, hc, hA, hcell⟩ := hv.parts
  refine ⟨A, c, by rw [hl], by omega, ?_⟩
  by_cases h0 : xss = []
  · exact .inl h0
  · have hpos : 0 < xss.length := List.length_pos_iff.2 h0
    obtain ⟨g, hA2, _⟩ := hcell 0 (by omega)
    refine .inr ⟨g, 0, hA2, fun i X hi => ?_⟩
    have hil := (List.getElem?_eq_some_iff.1 hi).1
    obtain ⟨g', hA3, hce⟩ := hcell i (by omega)
    rw [hA2] at hA3
    injection hA3 with hA3; injection hA3 with hA3
    subst hA3
    have h1 := hr i hil
    have e1 : xss.getD i [] = X := by rw [List.getD_eq_getElem?_getD, hi]; rfl
    have e2 : cs[i]? = some (cs.getD i undef) := by rw [List.getD_eq_getElem?_getD, List.getElem?_eq_getElem (by omega)]; rfl
    rw [e1] at h1
    obtain ⟨Ai, ci, h2, _, _, h5⟩ := h1.slice
    exact ⟨Ai, ci, by rw [Nat.zero_add, hce, e2, h2], h5⟩
end Go.Proofs.YtenjpmegnjdobaaDoor
/- s[f:], and copy over what one owns. -/
namespace Go.Cour
open Go.RowKit
section
variable {P : Program} {w : World} {ops : Array Oper} {rest : List Oper} {o : Oper} {a : Act} {Q : Exit → Act → World → Prop}
/-- Where s[f:] begins. -/
def cutA (A : Option Addr) (c f : Nat) : Option Addr := if c = f then A else A.map (·.add f)
theorem cutA_some {A : Option Addr} {c f m : Nat} (hf : f < m) (hmc : m ≤ c) : cutA A c f = A.map (·.add f) := by unfold cutA; rw [if_neg (by omega)]
theorem cutA_none {A : Option Addr} {c f : Nat} (hA : A = none → c = 0) (h : cutA A c f = none) : c - f = 0 := by
  unfold cutA at h
  split at h
  · omega
  · have := hA (by simpa using h)
    omega
theorem slice_cut (hw : Region.wanted o (yielded ops a.tmps) = true) (x y : Operand) (t : TypeId) (ho : o.op = .slice t x (some y) none none) (e : TypeId)
    (hu : P.underlying t = some (.slice e)) (hsz : (P.info? e).map (·.size) = some 1) (k : IntKind) (A : Option Addr) (m c f : Nat) (hx : a.eval x = .slice A m c) (hy : a.eval y = .int k (f : Int)) (hf : f ≤ m)
    (h : wpList P ops Q rest (a.put o.dst (.slice (cutA A c f) (m - f) (c - f))) w) : wpList P ops Q (o :: rest) a w := by
  obtain ⟨i, hi, hs⟩ : ∃ i, P.info? e = some i ∧ i.size = 1 := by
    cases hie : P.info? e with
    | none => simp [hie] at hsz
    | some i => exact ⟨i, rfl, by simpa [hie] using hsz⟩
  refine wpList_step fun K hK => ?_
  rw [if_pos hw]
  have hs2 : (sizeOf e).run P w = .ok 1 w := by simp [sizeOf, typeInfo, hi, hs]
  have hrun : (Instr.slice t (.slice A m c) (some (.int k (f : Int))) none none).run P w = .ok (.slice (cutA A c f) (m - f) (c - f)) w := by
    simp [Instr.slice, run_underlying hu, Instr.sliceBounds, run_sliceBound, hs2, hf, cutA]
  have hrun2 : (Instr.sliceAt t (.slice A m c) (some (.int k (f : Int))) none none).run P w = .ok (.slice (cutA A c f) (m - f) (c - f)) w := by
    rw [← hrun]; simp [Instr.sliceAt, run_underlying hu]
  unfold Oper.wp execOp
  simp only [ho, hx, hy, Option.map_some, Option.map_none]
  simp only [Sem.run_bind, Sem.run_pure, hrun2, Result.andThen_ok, Functor.map]
  first
    | exact hK _ _ h
    | (simp [hrun2]; exact hK _ _ h)
/-- s[f:] reads what stands from f on. -/
theorem rd_from {A A' : Option Addr} {k : IntKind} {xs : List Int} {f : Nat} (h : Rd w A k xs) (hA : f < xs.length → A' = A.map (·.add f)) : Rd w A' k (xs.drop f) := by
  by_cases hf : f < xs.length
  · rw [hA hf]
    rcases h with h | ⟨g, o, rfl, h⟩
    · exact .inl (by rw [h]; simp)
    · refine .inr ⟨g, o + f, by rw [Option.map_some, add_lit], fun i hi => ?_⟩
      rw [rd_drop, Nat.add_assoc]
      exact h _ (by rw [List.length_drop] at hi; omega)
  · exact .inl (List.drop_eq_nil_of_le (by omega))
/-- What stands behind copy(s[f:], ys). -/
def laid (xs : List Int) (f n : Nat) (ys : List Int) : List Int := xs.take f ++ ys.take n ++ xs.drop (f + n)
theorem laid_length {xs ys : List Int} {f n : Nat} (h1 : f + n ≤ xs.length) (h2 : n ≤ ys.length) : (laid xs f n ys).length = xs.length := by simp [laid]; omega
theorem copy_own (hgd : o.guard = none) (d s : Operand) (dT sT : TypeId)
    (ho : o.op = .call { callee := .builtin .copy, args := #[d, s], argTypes := #[dT, sT] }) (e : TypeId) (hu : P.underlying dT = some (.slice e)) (hsz : (P.info? e).map (·.size) = some 1)
    (k : IntKind) (x : Value) (xs : List Int) (hown : Own w 0 e k x xs) (A : Option Addr) (m c : Nat) (hx : x = .slice A m c) (hm : xs.length = m) (f : Nat) (hf : f ≤ m)
    (A' : Option Addr) (dCap : Nat) (hd : a.eval d = .slice A' (m - f) dCap) (hA' : f < m → A' = A.map (·.add f))
    (Ab : Option Addr) (q sCap : Nat) (ys : List Int) (hs : a.eval s = .slice Ab q sCap) (hq : ys.length = q) (hr : Rd w Ab k ys) (n : Nat) (hn : n = min q (m - f))
    (h : ∀ w', Own w' 0 e k x (laid xs f n ys) → Upd (fun j => x.ownBlock = some j) w w' → wpList P ops Q rest (a.put o.dst (.int .i64 (n : Int))) w') : wpList P ops Q (o :: rest) a w := by
  by_cases h0 : n = 0
  · subst h0
    refine wpList_copy_nothing hgd d s dT sT ho e hu hsz A' Ab (m - f) dCap q sCap hd hs hn.symm ?_
    exact h w (by unfold laid; rw [List.take_zero, List.append_nil, Nat.add_zero, List.take_append_drop]; exact hown) (Upd.refl _ _)
  · have hown0 := hown
    obtain ⟨h1, ⟨h2, h3⟩ | ⟨g, cap, cur, h2, hbg, hh, hnc, hcm, hcs, ht⟩⟩ := hown
    · omega
    · obtain ⟨rfl, hmm, rfl⟩ : A = some ⟨g, 0, none⟩ ∧ m = xs.length ∧ c = cap := by
        rw [hx] at h2; injection h2 with h2 h3 h4; exact ⟨h2, h3, h4⟩
      have hA2 : A' = some ⟨g, f, none⟩ := by rw [hA' (by omega), Option.map_some, add_lit, Nat.zero_add]
      subst hA2
      have hl : (ints k (ys.take n)).length = n := by simp; omega
      obtain ⟨gb, ob, rfl, hcell⟩ : ∃ gb ob, Ab = some ⟨gb, ob, none⟩ ∧ ∀ i, i < ys.length → w.cell? ⟨gb, ob + i, none⟩ = some (.int k (rd ys i)) := by
        rcases hr with hr | hr
        · rw [hr] at hq; simp at hq; omega
        · exact hr
      refine wpList_copy_own hgd d s dT sT ho e hu hsz g f (m - f) dCap ⟨gb, ob, none⟩ q sCap hd hs cur e hh (ints k (ys.take n)) (by rw [hl]; exact hn) ?_ (by rw [hl]; omega) ?_ ?_
      · intro j v hj
        have hj' : j < n := by have := (List.getElem?_eq_some_iff.1 hj).1; omega
        have hjl : j < ys.length := by omega
        rw [ints_get k _ j (by simp; omega)] at hj
        injection hj with hj
        subst hj
        rw [rd_take _ _ _ hj', add_lit]
        exact hcell j hjl
      · intro v hv
        obtain ⟨y, _, rfl⟩ := List.mem_map.1 hv
        rfl
      · rw [hl]
        have hsplit : cur.toList = ints k xs ++ cur.toList.drop m := by
          rw [← List.take_append_drop m cur.toList, List.drop_left' (by simp; omega)]
          rw [Nat.mul_one, ← hmm] at ht
          rw [ht]
        have hrow : cur.toList.take f ++ (ints k (ys.take n) ++ cur.toList.drop (f + n)) = ints k (laid xs f n ys) ++ cur.toList.drop m := by
          generalize cur.toList.drop m = R at hsplit
          have hlx : (ints k xs).length = m := by simp; omega
          rw [hsplit, List.take_append_of_le_length (by omega), List.drop_append_of_le_length (by omega)]
          simp [laid, ints, List.map_take, List.map_drop]
        have hlen := laid_length (xs := xs) (ys := ys) (f := f) (n := n) (by omega) (by omega)
        refine h _ ⟨by simp, .inr ⟨g, c, _, by rw [h2, hlen], Nat.zero_le _, setRow_heap w g cur _ e _ hh, by omega, hcm, ?_, ?_⟩⟩ ((Upd.setRow w g _).mono fun j _ hj => by subst hj; rw [h2]; rfl)
        · simp; omega
        · rw [hrow, List.take_left' (by simp)]
end
end Go.Cour
/- Slices of one's own, wherever they begin in their block: read, cut, appended to, written. -/
namespace Go.Cour
open Go.RowKit
/-- The slice value v, of the cells cs, is one's own. -/
def OwnS (w : World) (e : TypeId) (v : Value) (cs : List Value) : Prop :=
  (v = .slice none 0 0 ∧ cs = []) ∨ ∃ g off c cur, v = .slice (some ⟨g, off, none⟩) cs.length c ∧ w.heap[g]? = some (.cells cur e (0, 0)) ∧ cs.length ≤ c ∧ off + c ≤ cur.size ∧ c ≤ maxLen ∧ ∀ j u, cs[j]? = some u → cur[off + j]? = some u
section
variable {w w' : World} {e : TypeId} {v v' : Value} {cs : List Value}
theorem OwnS.nil (w : World) (e : TypeId) : OwnS w e (.slice none 0 0) [] := .inl ⟨rfl, rfl⟩
theorem OwnS.lt (h : OwnS w e v cs) (j : Nat) (hj : v.ownBlock = some j) : j < w.heap.size := by
  rcases h with ⟨rfl, _⟩ | ⟨g, off, c, cur, rfl, hh, _⟩
  · simp [Value.ownBlock] at hj
  · have : g = j := by simpa [Value.ownBlock] using hj
    subst this
    exact (Array.getElem?_eq_some_iff.1 hh).1
theorem OwnS.kept (h : OwnS w e v cs) (hk : ∀ j, v.ownBlock = some j → w'.heap[j]? = w.heap[j]?) : OwnS w' e v cs := by
  rcases h with h | ⟨g, off, c, cur, rfl, hh, r⟩
  · exact .inl h
  · exact .inr ⟨g, off, c, cur, rfl, (hk g rfl).trans hh, r⟩
theorem OwnS.below (h : OwnS w e v cs) (hb : Below w.heap.size w w') : OwnS w' e v cs := h.kept fun j hj => hb.block j (h.lt j hj)
theorem OwnS.parts (h : OwnS w e v cs) : ∃ A c, v = .slice A cs.length c ∧ cs.length ≤ c ∧ c ≤ maxLen ∧ (A = none → c = 0) ∧ (∀ a, A = some a → v.ownBlock = some a.block) ∧ ∀ j u, cs[j]? = some u → ∃ g off, A = some ⟨g, off, none⟩ ∧ w.cell? ⟨g, off + j, none⟩ = some u := by
  rcases h with ⟨rfl, rfl⟩ | ⟨g, off, c, cur, rfl, hh, h1, h2, h3, h4⟩
  · exact ⟨none, 0, rfl, Nat.le_refl _, by unfold maxLen; omega, fun _ => rfl, fun a ha => (by cases ha), fun j u hu => by simp at hu⟩
  · exact ⟨_, c, rfl, h1, h3, (fun ha => by cases ha), (fun a ha => by injection ha with ha; subst ha; rfl), fun j u hu => ⟨g, off, rfl, by rw [cell_of_row w g _ cur e (0, 0) hh]; exact h4 j u hu⟩⟩
theorem OwnS.ofRow {b : Nat} (h : w.ownsRow b e 1 v cs.length cs) : OwnS w e v cs := by
  obtain ⟨h1, ⟨rfl, h2⟩ | ⟨g, cap, cur, rfl, hg, hh, hn, hm, hs, ht⟩⟩ := h
  · exact .inl ⟨rfl, List.eq_nil_of_length_eq_zero h2⟩
  · refine .inr ⟨g, 0, cap, cur, rfl, hh, hn, by omega, hm, fun j u hu => ?_⟩
    rw [← ht, Nat.mul_one, List.getElem?_take] at hu
    split at hu
    · simpa using hu
    · cases hu
theorem Own.os {b : Nat} {k : IntKind} {xs : List Int} (h : Own w b e k v xs) : OwnS w e v (ints k xs) := OwnS.ofRow (b := b) (by
  have : xs.length = (ints k xs).length := by simp
  unfold Own at h
  rwa [this] at h)
theorem OwnV.os {b : Nat} (h : OwnV w b e v cs) : OwnS w e v cs := OwnS.ofRow h
theorem OwnS.ofBlk {g : Nat} (h : Blk w g e cs) (hm : cs.length ≤ maxLen) : OwnS w e (.slice (some ⟨g, 0, none⟩) cs.length cs.length) cs :=
  .inr ⟨g, 0, cs.length, cs.toArray, rfl, h, Nat.le_refl _, by simp, hm, fun j u hu => by simpa using hu⟩
/-- It reads as numbers. -/
theorem OwnS.rd {k : IntKind} {xs : List Int} (h : OwnS w e v (ints k xs)) {A : Option Addr} {n c : Nat} (hv : v = .slice A n c) : Rd w A k xs := by
  rcases h with ⟨rfl, h⟩ | ⟨g, off, c', cur, rfl, hh, h1, h2, h3, h4⟩
  · left; simpa [ints] using h
  · injection hv with hv
    subst hv
    exact .inr ⟨g, off, rfl, fun i hi => by rw [cell_of_row w g _ cur e (0, 0) hh]; exact h4 i _ (ints_get k xs i hi)⟩
theorem OwnS.len {A : Option Addr} {n c : Nat} (h : OwnS w e (.slice A n c) cs) : n = cs.length ∧ n ≤ c ∧ c ≤ maxLen ∧ (A = none → c = 0) := by
  obtain ⟨A', c', hv, h1, h2, h3, _⟩ := h.parts
  injection hv with hv1 hv2 hv3
  subst hv1 hv2 hv3
  exact ⟨rfl, h1, h2, h3⟩
theorem OwnS.cut {A : Option Addr} {n c : Nat} (h : OwnS w e (.slice A n c) cs) (f : Nat) (hf : f ≤ n) : OwnS w e (.slice (cutA A c f) (n - f) (c - f)) (cs.drop f) := by
  rcases h with ⟨hv, rfl⟩ | ⟨g, off, c', cur, hv, hh, h1, h2, h3, h4⟩
  · injection hv with hv1 hv2 hv3
    subst hv1 hv2 hv3
    obtain rfl : f = 0 := by omega
    exact .inl ⟨by simp [cutA], by simp⟩
  · injection hv with hv1 hv2 hv3
    subst hv1 hv2 hv3
    unfold cutA
    by_cases hc : c = f
    · rw [if_pos hc]
      refine .inr ⟨g, off, c - f, cur, by simp, hh, by simp; omega, by omega, by omega, fun j u hu => ?_⟩
      rw [List.getElem?_drop] at hu
      have := (List.getElem?_eq_some_iff.1 hu).1
      omega
    · rw [if_neg hc]
      refine .inr ⟨g, off + f, c - f, cur, by simp [add_lit], hh, by simp; omega, by omega, by omega, fun j u hu => ?_⟩
      rw [List.getElem?_drop] at hu
      rw [Nat.add_assoc]
      exact h4 _ _ hu
theorem cutA_own {A : Option Addr} {c f n m n' c' : Nat} (j : Nat) (h : (Value.slice (cutA A c f) n m).ownBlock = some j) : (Value.slice A n' c').ownBlock = some j := by
  unfold cutA at h
  split at h
  · cases A with
    | none => simp [Value.ownBlock] at h
    | some a => simpa [Value.ownBlock] using h
  · cases A with
    | none => simp [Value.ownBlock] at h
    | some a => simp [Value.ownBlock] at h ⊢; rw [← h]; simp [Addr.add]; split <;> rfl
/-- A place of it written. -/
theorem OwnS.set (h : OwnS w e v cs) {g off n c : Nat} (hv : v = .slice (some ⟨g, off, none⟩) n c) (j : Nat) (u : Value) (hj : j < cs.length) : OwnS (w.setCell ⟨g, off + j, none⟩ u) e v (cs.set j u) := by
  rcases h with ⟨rfl, rfl⟩ | ⟨g', off', c', cur, hv', hh, h1, h2, h3, h4⟩
  · simp at hj
  · rw [hv] at hv'
    injection hv' with hv1 hv2 hv3
    injection hv1 with hv1
    injection hv1 with hv1 hv4
    subst hv1 hv2 hv3 hv4
    refine .inr ⟨g, off, c, cur.setIfInBounds (off + j) u, by rw [hv, List.length_set], heap_setCell_same w g (off + j) cur e _ hh, by simpa using h1, by simpa using h2, h3, fun i x hx => ?_⟩
    by_cases hij : j = i
    · subst hij
      rw [List.getElem?_set_self hj] at hx
      rw [Array.getElem?_setIfInBounds]
      simp [← hx]; omega
    · rw [List.getElem?_set_ne hij] at hx
      rw [Array.getElem?_setIfInBounds_ne (by omega)]
      exact h4 i x hx
theorem OwnS.frozen (h : OwnS w e v cs) {g off n c : Nat} (hv : v = .slice (some ⟨g, off, none⟩) n c) (j : Nat) : w.frozen? ⟨g, j, none⟩ = false := by
  rcases h with ⟨rfl, rfl⟩ | ⟨g', off', c', cur, hv', hh, _⟩
  · cases hv
  · rw [hv] at hv'
    injection hv' with hv1
    injection hv1 with hv1
    injection hv1 with hv1
    subst hv1
    simp [World.frozen?, hh]
end
def Ent.os (e : TypeId) (v : Value) (cs : List Value) : Ent where
  F := fun j => v.ownBlock = some j
  p := fun w => OwnS w e v cs
  lt := fun h j hj => h.lt j hj
  kept := fun h hk => h.kept hk
section
variable {P : Program} {w w0 : World} {F : Nat → Prop} {L : List Ent}
theorem HS.os (h : HS F w0 w L) (i : Nat) {t : TypeId} {v : Value} {cs : List Value} (hi : L[i]? = some (.os t v cs)) : OwnS w t v cs := h.mem.get hi
theorem firstCells_none {w : World} {n : Nat} (h : n = 0) : True := trivial
/-- append, whatever lies behind the slice. -/
theorem run_append_os (t ty e : TypeId) (bytes : Nat) (ht : P.underlying t = some (.slice e)) (hi : (P.info? e).map (fun i => (i.size, i.bytes)) = some (1, bytes)) (hz : (((P.info? e).bind (·.zero)).map (·.cells.size)) = some 1)
    (v : Value) (cs : List Value) (hown : OwnS w e v cs) (A : Option Addr) (m c : Nat) (news : List Value) (hl : news.length = m) (hnews : ∀ j u, news[j]? = some u → ∃ ad, A = some ad ∧ w.cell? (ad.add j) = some u) (h1 : ∀ u ∈ news, u.oneCell' = true)
    (hbytes : (cs.length + m) * bytes ≤ 140737488355328) (h63 : cs.length + m ≤ 140737488355328) :
    ∃ v' w', (Builtin.append_ #[t, t] ty #[v, .slice A m c]).run P w = .ok v' w' ∧ OwnS w' e v' (cs ++ news) ∧ Upd (fun j => v.ownBlock = some j) w w' ∧ ∀ k, v'.ownBlock = some k → v.ownBlock = some k ∨ w.heap.size ≤ k := by
  obtain ⟨i, hi0, hi1, hi2⟩ : ∃ i, P.info? e = some i ∧ i.size = 1 ∧ i.bytes = bytes := by
    cases hq : P.info? e with
    | none => simp [hq] at hi
    | some i => simp [hq] at hi; exact ⟨i, rfl, hi.1, hi.2⟩
  obtain ⟨z, hz0, hz1⟩ : ∃ z, i.zero = some z ∧ z.cells.size = 1 := by
    cases hq : i.zero with
    | none => simp [hi0, hq] at hz
    | some z => simp [hi0, hq] at hz; exact ⟨z, rfl, hz⟩
  by_cases hm : m = 0
  · have hnil : news = [] := List.eq_nil_of_length_eq_zero (by omega)
    subst hnil hm
    refine ⟨v, w, ?_, by simpa using hown, Upd.refl _ _, fun k hk => .inl hk⟩
    have hr : ∀ (B : Option Addr) (n cap : Nat), n ≤ cap → v = .slice B n cap → (B = none → cap = 0) → (Builtin.append_ #[t, t] ty #[.slice B n cap, .slice A 0 c]).run P w = .ok (.slice B n cap) w := fun B n cap hnc hv hB => by
      cases B with
      | none =>
        have := hB rfl
        obtain rfl : n = 0 := by omega
        cases A <;> simp [Builtin.append_, run_underlying ht, sizeOf, typeInfo, hi0, Builtin.lenOf, Builtin.firstCells, loadCells, loadCellsFrom]
      | some b => cases A <;> simp [Builtin.append_, run_underlying ht, sizeOf, typeInfo, hi0, Builtin.lenOf, hnc, Builtin.firstCells, loadCells, loadCellsFrom, storeCells]
    obtain ⟨B, cap, hv, hnc, _, hB, _⟩ := hown.parts
    rw [hv]; exact hr B cs.length cap hnc hv hB
  · obtain ⟨ad, rfl⟩ : ∃ ad, A = some ad := by
      cases news with
      | nil => simp at hl; omega
      | cons u us => obtain ⟨ad, h, _⟩ := hnews 0 u (by simp); exact ⟨ad, h⟩
    have hnews' : ∀ j u, news[j]? = some u → w.cell? (ad.add j) = some u := fun j u hu => by
      obtain ⟨ad', h, h2⟩ := hnews j u hu
      injection h with h; subst h; exact h2
    rcases hown with ⟨rfl, rfl⟩ | ⟨g, off, cap, cur, rfl, hh, hn, hfit, hcm, hcs⟩
    · have hr := run_append_nil (P := P) w t ty e i z ht hi0 hz0 ad m c news (by rw [hl, hi1, Nat.mul_one]) hnews' (by omega) (by omega) (by rw [hi2]; simp at hbytes; omega)
      refine ⟨_, _, hr, ?_, Upd.of_below ((below_drewN (Below.refl w.heap.size w) 1).alloc (Nat.le_refl _) _) _, fun k hk => .inr ?_⟩
      · refine .inr ⟨w.heap.size, 0, _, _, by rw [List.nil_append, hl], heap_alloc_new w.drew _, ?_, ?_, grownCap_le_maxLen w m 0 e (by unfold maxLen; simp at h63; omega), fun j u hu => ?_⟩
        · rw [List.nil_append, hl]; exact grownCap_ge w m 0 e
        · have := grownCap_ge w m 0 e
          simp only [Array.size_append, List.size_toArray, size_zeroCells, hz1, hl]; omega
        · rw [List.nil_append] at hu
          have hlt := (List.getElem?_eq_some_iff.1 hu).1
          rw [Nat.zero_add, Array.getElem?_append_left (by simpa using hlt)]
          simpa using hu
      · have : w.heap.size = k := by simpa [Value.ownBlock] using hk
        omega
    · have holds : ∀ j u, cs[j]? = some u → w.cell? ((⟨g, off, none⟩ : Addr).add j) = some u := fun j u hu => by
        rw [add_lit, cell_of_row w g _ cur e (0, 0) hh]; exact hcs j u hu
      by_cases hroom : cs.length + m ≤ cap
      · have hr := run_append_room_cells (P := P) w t ty e i ht hi0 g off cs.length cap ad m c news (by rw [hl, hi1, Nat.mul_one]) hnews' h1 hroom
          (fun j hj => by rw [hi1, Nat.mul_one, cell_of_row w g _ cur e (0, 0) hh, Array.getElem?_eq_getElem (by omega)]; rfl)
          (fun j hj => by simp [World.frozen?, hh])
        rw [hi1, Nat.mul_one] at hr
        refine ⟨_, _, hr, ?_, (setCells_upd news w _).mono fun k _ hk => by simp [Value.ownBlock]; exact hk.symm, fun k hk => .inl (by simpa [Value.ownBlock] using hk)⟩
        have hb : Blk w g e cur.toList := by unfold Blk; simpa using hh
        have hb2 := setCells_blk news (off + cs.length) hb (by simp; omega)
        refine .inr ⟨g, off, cap, _, by rw [List.length_append, hl], hb2, by rw [List.length_append]; omega, by simp; omega, hcm, fun j u hu => ?_⟩
        rw [List.getElem?_append] at hu
        simp only [List.getElem?_toArray]
        rw [List.append_assoc]
        split at hu
        · rename_i hlt
          rw [List.getElem?_append_left (by simp; omega), List.getElem?_take, if_pos (by omega)]
          simpa using hcs j u hu
        · rename_i hge
          have hlt := (List.getElem?_eq_some_iff.1 hu).1
          rw [List.getElem?_append_right (by simp; omega), List.getElem?_append_left (by simp; omega)]
          rw [← hu]; congr 1; simp; omega
      · have hr := run_append_grow (P := P) w t ty e i z ht hi0 hz0 ⟨g, off, none⟩ cs.length cap cs (by rw [hi1, Nat.mul_one]) holds ad m c news (by rw [hl, hi1, Nat.mul_one]) hnews' (by omega) (by omega) (growslice_fits (by omega) (by rw [hi2]; exact hbytes))
        refine ⟨_, _, hr, ?_, Upd.of_below ((below_drewN (Below.refl w.heap.size w) 1).alloc (Nat.le_refl _) _) _, fun k hk => .inr ?_⟩
        · refine .inr ⟨w.heap.size, 0, _, _, by rw [List.length_append, hl], heap_alloc_new w.drew _, ?_, ?_, grownCap_le_maxLen w _ cap e (by unfold maxLen; omega), fun j u hu => ?_⟩
          · rw [List.length_append, hl]; exact grownCap_ge w _ cap e
          · have := grownCap_ge w (cs.length + m) cap e
            simp only [Array.size_append, List.size_toArray, size_zeroCells, hz1, hl]; omega
          · have hlt := (List.getElem?_eq_some_iff.1 hu).1
            rw [Nat.zero_add, Array.getElem?_append_left (by simpa using hlt)]
            simpa using hu
        · have : w.heap.size = k := by simpa [Value.ownBlock] using hk
          omega
end
section
variable {P : Program} {ops : Array Oper} {rest : List Oper} {o : Oper} {a : Act} {w w0 : World} {Q : Exit → Act → World → Prop} {F : Nat → Prop} {L : List Ent}
theorem hs_append (hS : HS F w0 w L) (i : Nat) {e : TypeId} {v : Value} {cs : List Value} (hi : L[i]? = some (.os e v cs)) (hw : Region.wanted o (yielded ops a.tmps) = true) (s x : Operand) (t : TypeId)
    (ho : o.op = .call { callee := .builtin .append, args := #[s, x], argTypes := #[t, t] }) (bytes : Nat) (ht : P.underlying t = some (.slice e)) (hf : (P.info? e).map (fun i => (i.size, i.bytes)) = some (1, bytes)) (hz : (((P.info? e).bind (·.zero)).map (·.cells.size)) = some 1)
    (hs : a.eval s = v) (A : Option Addr) (m c : Nat) (hx : a.eval x = .slice A m c) (news : List Value) (hl : news.length = m) (hnews : ∀ j u, news[j]? = some u → ∃ ad, A = some ad ∧ w.cell? (ad.add j) = some u) (h1 : ∀ u ∈ news, u.oneCell' = true)
    (hbytes : (cs.length + m) * bytes ≤ 140737488355328) (h63 : cs.length + m ≤ 140737488355328) (d : Option Tmp) (hd : o.dst = d)
    (h : ∀ A' n' c' w', (cs ++ news).length = n' → n' ≤ c' → (A' = none → c' = 0) → HS F w0 w' (L.set i (.os e (.slice A' n' c') (cs ++ news))) → wpList P ops Q rest (a.put d (.slice A' n' c')) w') : wpList P ops Q (o :: rest) a w := by
  subst hd
  refine wpList_step fun K hK => ?_
  rw [if_pos hw]
  obtain ⟨v', w', hrun, ho', hu, hb⟩ := run_append_os (P := P) t o.type e bytes ht hf hz v cs (hS.os i hi) A m c news hl hnews h1 hbytes h63
  unfold Oper.wp execOp
  simp only [ho, resolve, invoke, builtin]
  simp [hs, hx, hrun]
  obtain ⟨A', c', rfl, h5, _, h6, _⟩ := ho'.parts
  exact hK _ _ (h A' _ c' w' rfl h5 h6 (hS.upd1 i hi hu _ ho' hb))
end
/-- An empty literal. -/
theorem hs_empty {P : Program} {ops : Array Oper} {rest : List Oper} {o : Oper} {a : Act} {w w0 : World} {Q : Exit → Act → World → Prop} {F : Nat → Prop} {L : List Ent} (hS : HS F w0 w L) (hw : Region.wanted o (yielded ops a.tmps) = true) (t e : TypeId) (ho : o.op = .buildSlice t 0 #[])
    (hu : P.underlying t = some (.slice e)) (hz : ((P.info? e).bind (·.zero)).isSome = true) (d : Option Tmp) (hd : o.dst = d)
    (h : ∀ g w', w.heap.size = g → Below w.heap.size w w' → HS F w0 w' (.os e (.slice (some ⟨g, 0, none⟩) 0 0) [] :: L) → wpList P ops Q rest (a.put d (.slice (some ⟨g, 0, none⟩) 0 0)) w') : wpList P ops Q (o :: rest) a w := by
  subst hd
  have hB : Below w.heap.size w (w.alloc (.cells (#[] : Array Value) e)) := (Below.refl _ _).alloc (Nat.le_refl _) _
  have hb : Blk (w.alloc (.cells (#[] : Array Value) e)) w.heap.size e [] := Blk.new w e []
  have h1 := h w.heap.size _ rfl hB (hS.push hB (.os e (.slice (some ⟨w.heap.size, 0, none⟩) 0 0) []) (OwnS.ofBlk hb (Nat.zero_le _)) (fun k hk => Nat.le_of_eq (by simpa [Ent.os, Value.ownBlock] using hk)))
  cases hie : P.info? e with
  | none => simp [hie] at hz
  | some ie =>
    refine wpList_step fun K hK => ?_
    rw [if_pos hw]
    have hrun : (Instr.buildSlice t 0 #[]).run P w = .ok (.slice (some ⟨w.heap.size, 0, none⟩) 0 0) (w.alloc (.cells (#[] : Array Value) e)) := by
      have e0 : ∀ f : Nat → Value, Array.map f (Array.range 0) = #[] := fun f => Array.eq_empty_of_size_eq_zero (by simp)
      simp [Instr.buildSlice, run_underlying hu, sizeOf, typeInfo, hie, Instr.fill, newRow, e0]
    unfold Oper.wp execOp
    simp [ho, hrun]
    exact hK _ _ h1
/-- A literal of one. -/
theorem hs_one {P : Program} {ops : Array Oper} {rest : List Oper} {o : Oper} {a : Act} {w w0 : World} {Q : Exit → Act → World → Prop} {F : Nat → Prop} {L : List Ent} (hS : HS F w0 w L) (hw : Region.wanted o (yielded ops a.tmps) = true) (t e : TypeId) (x : Operand) (ho : o.op = .buildSlice t 1 #[(0, x)])
    (hu : P.underlying t = some (.slice e)) (hf : (P.info? e).map (·.size) = some 1) (hz : (((P.info? e).bind (·.zero)).map (·.cells.size)) = some 1) (v : Value) (hv : a.eval x = v) (h1 : v.oneCell' = true) (d : Option Tmp) (hd : o.dst = d)
    (h : ∀ g w', w.heap.size = g → Below w.heap.size w w' → HS F w0 w' (.os e (.slice (some ⟨g, 0, none⟩) 1 1) [v] :: L) → wpList P ops Q rest (a.put d (.slice (some ⟨g, 0, none⟩) 1 1)) w') : wpList P ops Q (o :: rest) a w := by
  subst hd
  have hB : Below w.heap.size w (w.alloc (.cells (#[v] : Array Value) e)) := (Below.refl _ _).alloc (Nat.le_refl _) _
  have hb : Blk (w.alloc (.cells (#[v] : Array Value) e)) w.heap.size e [v] := Blk.new w e [v]
  have h2 := h w.heap.size _ rfl hB (hS.push hB (.os e (.slice (some ⟨w.heap.size, 0, none⟩) 1 1) [v]) (OwnS.ofBlk hb (by unfold maxLen; simp)) (fun k hk => Nat.le_of_eq (by simpa [Ent.os, Value.ownBlock] using hk)))
  have hc : v.cells = #[v] := by cases v <;> first | rfl | cases h1
  cases hie : P.info? e with
  | none => simp [hie] at hf
  | some ie =>
    have hsz : ie.size = 1 := by simpa [hie] using hf
    cases hzz : ie.zero with
    | none => simp [hie, hzz] at hz
    | some z =>
      have hz1 : z.cells.size = 1 := by simpa [hie, hzz] using hz
      refine wpList_step fun K hK => ?_
      rw [if_pos hw]
      refine wp_buildSlice t e 1 #[(0, x)] ho #[v] ie z hu hie hzz (by rw [hsz]; decide) (by rw [hsz]; decide) ?_ (hK _ _ h2)
      have e1 : ∀ xs : Array Value, xs.size = 1 → xs.setIfInBounds 0 v = #[v] := fun xs hx => by
        obtain ⟨y, rfl⟩ := Array.size_eq_one_iff.1 hx
        rfl
      simp [hsz, hv, Instr.fill, hc, e1]
theorem news_of_rd {w : World} {A : Option Addr} {k : IntKind} {xs : List Int} (h : Rd w A k xs) : ∀ j u, (ints k xs)[j]? = some u → ∃ ad, A = some ad ∧ w.cell? (ad.add j) = some u := fun j u hu => by
  have hlt := (List.getElem?_eq_some_iff.1 hu).1
  simp at hlt
  rw [ints_get k xs j hlt] at hu
  injection hu with hu
  subst hu
  rcases h with h | ⟨g, o, rfl, h⟩
  · subst h; simp at hlt
  · exact ⟨_, rfl, by rw [add_lit]; exact h j hlt⟩
theorem ints_one' (k : IntKind) (xs : List Int) : ∀ u ∈ ints k xs, u.oneCell' = true := fun u hu => by
  obtain ⟨y, _, rfl⟩ := List.mem_map.1 hu; rfl
/-- A fresh slice beside all that is there. -/
theorem HS.pushOwn {F : Nat → Prop} {w0 w w' : World} {L : List Ent} (h : HS F w0 w L) (hb : Below w.heap.size w w') {e : TypeId} {k : IntKind} {v : Value} {xs : List Int} (ho : Own w' w.heap.size e k v xs) : HS F w0 w' (.os e v (ints k xs) :: L) :=
  h.push hb _ ho.os fun j hj => ho.base_le j hj
theorem Own.partsL {w : World} {b m : Nat} {e : TypeId} {k : IntKind} {v : Value} {xs : List Int} (h : Own w b e k v xs) (hm : xs.length = m) : ∃ A c, v = .slice A m c ∧ m ≤ c ∧ (A = none → c = 0) := by
  subst hm
  obtain ⟨A, c, h1, h2, h3, _⟩ := h.parts
  exact ⟨A, c, h1, h2, h3⟩
end Go.Cour
/- What lies in a stretch of memory as it lay in another world. -/
namespace Go.Cour
open Go.RowKit
/-- The blocks from B on that w1 has are as they are in w1. -/
def Ent.snap (B : Nat) (w1 : World) : Ent where
  F := fun k => B ≤ k ∧ k < w1.heap.size
  p := fun w => ∀ k, B ≤ k → k < w1.heap.size → w.heap[k]? = w1.heap[k]?
  lt := fun {w} h k hk => by
    have h2 := h k hk.1 hk.2
    rw [Array.getElem?_eq_getElem hk.2] at h2
    exact (Array.getElem?_eq_some_iff.1 h2).1
  kept := fun h hk k h1 h2 => (hk k ⟨h1, h2⟩).trans (h k h1 h2)
section
variable {w w' w1 w0 : World} {L : List Ent} {F : Nat → Prop} {B : Nat}
theorem HS.pushSnap (h : HS F w0 w L) (hb : Below w.heap.size w w') : HS F w0 w' (.snap w.heap.size w' :: L) :=
  h.push hb _ (fun _ _ _ => rfl) fun _ hk => hk.1
theorem HS.snap (h : HS F w0 w L) (i : Nat) (hi : L[i]? = some (.snap B w1)) : ∀ k, B ≤ k → k < w1.heap.size → w.heap[k]? = w1.heap[k]? := h.mem.get hi
theorem Own.snap {e : TypeId} {k : IntKind} {v : Value} {xs : List Int} (h : Own w1 B e k v xs) (hs : ∀ k, B ≤ k → k < w1.heap.size → w.heap[k]? = w1.heap[k]?) : Own w B e k v xs :=
  h.kept' fun j hj => hs j (h.base_le j hj) (h.lt_size j hj)
theorem OwnV.snap {e : TypeId} {v : Value} {cs : List Value} (h : OwnV w1 B e v cs) (hs : ∀ k, B ≤ k → k < w1.heap.size → w.heap[k]? = w1.heap[k]?) : OwnV w B e v cs :=
  h.kept' fun j hj => hs j (h.base_le j hj) (h.lt_size j hj)
theorem OwnL.snap {e e1 : TypeId} {k : IntKind} {v : Value} {xss : List (List Int)} (h : OwnL w1 B e e1 k v xss) (hs : ∀ k, B ≤ k → k < w1.heap.size → w.heap[k]? = w1.heap[k]?) : OwnL w B e e1 k v xss := by
  obtain ⟨cs, h1, h2, h3⟩ := h
  exact ⟨cs, OwnV.snap h1 hs, h2, fun j hj => Own.snap (h3 j hj) hs⟩
end
end Go.Cour
/- s[p:h] of a slice, a slice's part read. -/
namespace Go.Cour
open Go.RowKit
section
variable {P : Program} {w : World} {ops : Array Oper} {rest : List Oper} {o : Oper} {a : Act} {Q : Exit → Act → World → Prop}
theorem slice_two (hw : Region.wanted o (yielded ops a.tmps) = true) (x y z : Operand) (t : TypeId) (ho : o.op = .slice t x (some y) (some z) none) (e : TypeId)
    (hu : P.underlying t = some (.slice e)) (hsz : (P.info? e).map (·.size) = some 1) (g off m c p h n : Nat) (hx : a.eval x = .slice (some ⟨g, off, none⟩) m c) (hy : a.eval y = .int .i64 (p : Int)) (hz : a.eval z = .int .i64 (h : Int)) (hph : p ≤ h) (hhc : h ≤ c) (hpc : p < c) (hn : h - p = n) (d : Option Tmp) (hd : o.dst = d)
    (hk : wpList P ops Q rest (a.put d (.slice (some ⟨g, off + p, none⟩) n (c - p))) w) : wpList P ops Q (o :: rest) a w := by
  subst hd hn
  obtain ⟨i, hi, hs⟩ : ∃ i, P.info? e = some i ∧ i.size = 1 := by
    cases hie : P.info? e with
    | none => simp [hie] at hsz
    | some i => exact ⟨i, rfl, by simpa [hie] using hsz⟩
  refine wpList_step fun K hK => ?_
  rw [if_pos hw]
  have hs2 : (sizeOf e).run P w = .ok 1 w := by simp [sizeOf, typeInfo, hi, hs]
  have hne : ¬ c = p := by omega
  have hrun : (Instr.slice t (.slice (some ⟨g, off, none⟩) m c) (some (.int .i64 (p : Int))) (some (.int .i64 (h : Int))) none).run P w = .ok (.slice (some ⟨g, off + p, none⟩) (h - p) (c - p)) w := by
    simp [Instr.slice, run_underlying hu, Instr.sliceBounds, run_sliceBound, hs2, hph, hhc, hne, add_lit]
  have hrun2 : (Instr.sliceAt t (.slice (some ⟨g, off, none⟩) m c) (some (.int .i64 (p : Int))) (some (.int .i64 (h : Int))) none).run P w = .ok (.slice (some ⟨g, off + p, none⟩) (h - p) (c - p)) w := by
    rw [← hrun]; simp [Instr.sliceAt, run_underlying hu]
  unfold Oper.wp execOp
  simp only [ho, hx, hy, hz, Option.map_some, Option.map_none]
  simp [hrun2]
  exact hK _ _ hk
end
end Go.Cour
/- A place of one's own slice written. -/
namespace Go.Cour
open Go.RowKit
section
variable {P : Program} {ops : Array Oper} {rest : List Oper} {o : Oper} {a : Act} {w w0 : World} {Q : Exit → Act → World → Prop} {F : Nat → Prop} {L : List Ent}
/-- A place of one's own slice stored. -/
theorem hs_storeS (hS : HS F w0 w L) (i : Nat) {e : TypeId} {g off n c : Nat} {cs : List Value} (hi : L[i]? = some (.os e (.slice (some ⟨g, off, none⟩) n c) cs)) (hw : Region.wanted o (yielded ops a.tmps) = true) (ty : TypeId) (x y : Operand) (ho : o.op = .store ty x y)
    (j : Nat) (hx : a.eval x = .pointer (some ⟨g, off + j, none⟩)) (v : Value) (hv : a.eval y = v) (h1 : v.oneCell' = true) (hs : (P.info? ty).map (·.size) = some 1) (hj : j < cs.length) (d : Option Tmp) (hd : o.dst = d)
    (h : ∀ w', HS F w0 w' (L.set i (.os e (.slice (some ⟨g, off, none⟩) n c) (cs.set j v))) → wpList P ops Q rest (a.put d undef) w') : wpList P ops Q (o :: rest) a w := by
  subst hd
  refine wpList_step fun K hK => ?_
  rw [if_pos hw]
  have hc : v.cells = #[v] := by cases v <;> first | rfl | cases h1
  have hos := hS.os i hi
  obtain ⟨A', c', hv', _, _, _, _, hcell⟩ := hos.parts
  obtain ⟨g', o', he, hcl⟩ := hcell j cs[j] (List.getElem?_eq_getElem hj)
  injection hv' with hv1
  rw [← hv1] at he
  injection he with he; injection he with he1 he2
  subst he1 he2
  have hfz := hos.frozen rfl (off + j)
  have hrun : (storeVar ty ⟨g, off + j, none⟩ v).run P w = .ok () (w.setCell ⟨g, off + j, none⟩ v) := by
    cases hq : P.info? ty with
    | none => simp [hq] at hs
    | some z =>
      have hz : z.size = 1 := by simpa [hq] using hs
      have := run_storeVar_mid (P := P) w g (off + j) ty #[v] (fun i hi => by
        have : i = 0 := by simpa using hi
        subst this
        exact ⟨by rw [Nat.add_zero, hcl]; rfl, by rw [Nat.add_zero]; exact hfz⟩) (by simp [hq, hz]) (by simpa using h1)
      have h2 : storeVar ty ⟨g, off + j, none⟩ v = storeVar ty ⟨g, off + j, none⟩ (.agg #[v]) := by
        have e1 : (Value.agg #[v]).cells = #[v] := rfl
        unfold storeVar
        rw [hc, e1]
      rw [h2, this]
      simp [World.setCells]
  unfold Oper.wp execOp
  simp only [ho, hx, hv, Instr.storeAt, Instr.sureAddr, Sem.run_bind, Sem.run_pure, Result.andThen_ok, hrun]
  exact hK _ _ (h _ (hS.upd1 i hi ((Upd.setCell w ⟨g, off + j, none⟩ v).mono fun k _ hk => by
    have : k = g := hk
    subst this; rfl) _ (hos.set rfl j v hj) (fun k hk => .inl hk)))
end
end Go.Cour
/- Slices of one's own: where they lie, a place of them written. -/
namespace Go.Proofs.YtenjpmegnjdobaaDoor
open Go.RowKit Go.Cour
theorem nil_neq (w : World) : (binOp .neq 35 .nilIface .nilIface).run Tryd.prog w = .ok (.bool false) w := by
  obtain ⟨ms, hms⟩ := undErr
  have h : ∀ d : Nat, (Op.equalIn (d + 1) 35 .nilIface .nilIface).run Tryd.prog w = .ok true w := fun d => by simp [Op.equalIn, run_underlying hms]
  simp only [binOp]
  simp [Op.equal, Op.maxDepth, h 9999]
/-- An own slice that is not empty: where it lies; a place of it written. -/
theorem own_at {w : World} {base : Nat} {e : TypeId} {k : IntKind} {v : Value} {xs : List Int} (h : Own w base e k v xs) (hx : 0 < xs.length) :
    ∃ g cap, v = .slice (some ⟨g, 0, none⟩) xs.length cap ∧ base ≤ g ∧ (∀ i, i < xs.length → w.cell? ⟨g, i, none⟩ = some (.int k (rd xs i))) ∧ (∀ i, w.frozen? ⟨g, i, none⟩ = false) ∧
      ∀ i x, Own (w.setCell ⟨g, i, none⟩ (.int k x)) base e k v (xs.set i x) := by
  obtain ⟨h1, ⟨rfl, h2⟩ | ⟨g, cap, cur, rfl, hg, hh, hn, hm, hs, ht⟩⟩ := h
  · omega
  · refine ⟨g, cap, rfl, hg, fun i hi => ?_, fun i => by simp [World.frozen?, hh], fun i x => ⟨by simp, .inr ⟨g, cap, cur.setIfInBounds i (.int k x), by simp, hg, heap_setCell_same w g i cur e _ hh, by simpa using hn, hm, by simpa using hs, ?_⟩⟩⟩
    · have hc : w.cell? ⟨g, i, none⟩ = cur[i]? := cell_of_row w g i cur e (0, 0) hh
      rw [hc]
      have : (ints k xs)[i]? = cur[i]? := by
        rw [← ht, Nat.mul_one, List.getElem?_take, if_pos hi]; simp
      rw [← this, ints_get k xs i hi]
    · rw [← ints_set, ← ht, List.length_set, Array.toList_setIfInBounds, List.take_set]
theorem own_rd {w : World} {base : Nat} {e : TypeId} {k : IntKind} {A : Option Addr} {l c : Nat} {xs : List Int} (h : Own w base e k (.slice A l c) xs) : Rd w A k xs := by
  obtain ⟨A', c', hv, _, _, hr⟩ := h.slice
  injection hv with hv
  subst hv
  exact hr
theorem own_lt {w : World} {base : Nat} {e : TypeId} {k : IntKind} {v : Value} {xs : List Int} (h : Own w base e k v xs) (j : Nat) (hj : v.ownBlock = some j) : j < w.heap.size := by
  rcases h.2 with ⟨rfl, _⟩ | ⟨g, cap, cur, rfl, hg, hh, r⟩
  · simp [Value.ownBlock] at hj
  · have : g = j := by simpa [Value.ownBlock] using hj
    subst this
    exact (Array.getElem?_eq_some_iff.1 hh).1
theorem own_far {w : World} {base B g i : Nat} {e : TypeId} {k : IntKind} {v u : Value} {xs : List Int} (h : Own w base e k v xs) (hl : ∀ j, v.ownBlock = some j → j < B) (hg : B ≤ g) : Own (w.setCell ⟨g, i, none⟩ u) base e k v xs :=
  h.setOther (fun he => by have := hl g he.symm; omega) u
end Go.Proofs.YtenjpmegnjdobaaDoor
/- What an opening answers, as it is compared. -/
namespace Go.Proofs.YtenjpmegnjdobaaDoor
open Go.RowKit Go.Cour
/-- A tuple of two values of which something is known. -/
def Tup2 (v : Value) (p : Value → Value → Prop) : Prop := ∃ a b, v = .tuple #[a, b] ∧ p a b
def tupAt (i : Nat) : Value → Value
  | .tuple a => a.getD i undef
  | _ => undef
theorem Tup2.mono {v : Value} {p q : Value → Value → Prop} (h : Tup2 v p) (k : ∀ a b, p a b → q a b) : Tup2 v q := by
  obtain ⟨a, b, h1, h2⟩ := h
  exact ⟨a, b, h1, k a b h2⟩
theorem Opened.below {w w' : World} {B : Nat} {P : Nat → Addr} {r : List Int ⊕ Nat} {v er : Value} (h : Opened w B P r v er) (hb : Below w.heap.size w w') : Opened w' B P r v er := by
  cases r with
  | inl xs => exact ⟨h.1, h.2.below hb⟩
  | inr k => exact h
theorem Opened1.below {w w' : World} {B : Nat} {r : List Int ⊕ Nat} {v : Value} {k : Int} (h : Opened1 w B r v k) (hb : Below w.heap.size w w') : Opened1 w' B r v k := by
  cases r with
  | inl xs => exact ⟨h.1, h.2.below hb⟩
  | inr k => exact h
theorem Opened.drew {w : World} {B : Nat} {P : Nat → Addr} {r : List Int ⊕ Nat} {v er : Value} (h : Opened w B P r v er) : Opened w.drew B P r v er := h.below (below_drewN (Below.refl _ _) 1)
theorem Opened1.drew {w : World} {B : Nat} {r : List Int ⊕ Nat} {v : Value} {k : Int} (h : Opened1 w B r v k) : Opened1 w.drew B r v k := h.below (below_drewN (Below.refl _ _) 1)
theorem Opened.lower {w : World} {B B' : Nat} {P : Nat → Addr} {r : List Int ⊕ Nat} {v er : Value} (h : Opened w B P r v er) (hb : B' ≤ B) : Opened w B' P r v er := by
  cases r with
  | inl xs => exact ⟨h.1, h.2.lower hb⟩
  | inr k => exact h
theorem Opened1.lower {w : World} {B B' : Nat} {r : List Int ⊕ Nat} {v : Value} {k : Int} (h : Opened1 w B r v k) (hb : B' ≤ B) : Opened1 w B' r v k := by
  cases r with
  | inl xs => exact ⟨h.1, h.2.lower hb⟩
  | inr k => exact h
theorem openOf_inr {key nonce ad b : List Int} {k : Nat} (h : openOf key nonce ad b = .inr k) : k = 2 ∨ k = 8 := by
  unfold openOf at h
  split at h
  · injection h with h; exact .inl h.symm
  · split at h
    · cases h
    · injection h with h; exact .inr h.symm
theorem openOf_inl {key nonce ad b xs : List Int} (h : openOf key nonce ad b = .inl xs) : xs.length ≤ b.length := by
  unfold openOf at h
  split at h
  · cases h
  · split at h
    · injection h with h
      rw [← h, xorStream_length, List.length_take]
      omega
    · cases h
/-- The bytes that an opening answers. -/
def opL : List Int ⊕ Nat → List Int
  | .inl xs => xs
  | .inr _ => []
theorem openOf_opL (key nonce ad b : List Int) : (opL (openOf key nonce ad b)).length ≤ b.length := by
  cases h : openOf key nonce ad b with
  | inl xs => exact openOf_inl h
  | inr k => simp [opL]
theorem openOf_lt (key nonce ad b : List Int) : ∀ j, openOf key nonce ad b = .inr j → j < 19 := fun j h => by
  rcases openOf_inr h with h | h <;> omega
theorem Opened.rd {w : World} {B : Nat} {P : Nat → Addr} {r : List Int ⊕ Nat} {v er : Value} (h : Opened w B P r v er) : ∃ A c, v = .slice A (opL r).length c ∧ Rd w A .u8 (opL r) := by
  cases r with
  | inl xs => obtain ⟨A, c, hv, _, _, hr⟩ := h.2.parts; exact ⟨A, c, hv, hr⟩
  | inr k => exact ⟨none, 0, h.2, .inl rfl⟩
theorem Opened1.rd {w : World} {B : Nat} {r : List Int ⊕ Nat} {v : Value} {k : Int} (h : Opened1 w B r v k) : ∃ A c, v = .slice A (opL r).length c ∧ Rd w A .u8 (opL r) := by
  cases r with
  | inl xs => obtain ⟨A, c, hv, _, _, hr⟩ := h.2.parts; exact ⟨A, c, hv, hr⟩
  | inr k => exact ⟨none, 0, h.2, .inl rfl⟩
/-- The two errors are alike. -/
theorem is_op_calls {w w1 w2 : World} {B B' : Nat} {P : Nat → Addr} {r : List Int ⊕ Nat} {v v' er : Value} {k : Int} (hE : Errs w P) (hr : ∀ j, r = .inr j → j < 19) (h : Opened w1 B P r v er) (h' : Opened1 w2 B' r v' k) :
    Calls Tryd.prog 19 #[er, .int .i64 k] w fun e w' => e = .returned (.bool true) ∧ Below w.heap.size w w' := by
  cases r with
  | inl xs => rw [h.1, h'.1]; exact is_nil_calls 0 w
  | inr j =>
    rw [h.1, h'.1]
    have := is_err_calls (101 + (j : Int)) hE j (hr j rfl)
    simpa using this
theorem u8_wf {x : Int} (h : (Lit.int .u8 x).wf = true) : 0 ≤ x ∧ x < 256 := by
  have h1 : IntKind.u8.min = 0 := by decide
  have h2 : IntKind.u8.max = 255 := by decide
  simp [Lit.wf, h1, h2] at h
  omega
end Go.Proofs.YtenjpmegnjdobaaDoor
/- Number: a number from 0 to below a bound. -/
namespace Go.Proofs.YtenjpmegnjdobaaDoor
open Go.RowKit Go.Cour
theorem tmod_low (a b : Int) (hb : 0 < b) : -b < a.tmod b ∧ a.tmod b < b := by
  have := Int.tmod_lt_of_pos a hb
  have := Int.lt_tmod_of_pos a hb
  omega
theorem emod_of_tmod (a b : Int) (hb : 0 < b) : a % b = if a.tmod b < 0 then a.tmod b + b else a.tmod b := by
  have h1 := tmod_low a b hb
  have h2 := Int.mul_tdiv_add_tmod a b
  split
  · refine (Int.emod_emod_of_dvd a (Int.dvd_refl b)).symm.trans ?_
    rw [← h2]
    have : (b * a.tdiv b + a.tmod b) % b = (a.tmod b + b) % b := by
      rw [Int.add_comm, Int.add_mul_emod_self_left, Int.add_emod_right]
    rw [h2] at this ⊢
    rw [Int.emod_emod_of_dvd _ (Int.dvd_refl b), this]
    exact Int.emod_eq_of_lt (by omega) (by omega)
  · have : (b * a.tdiv b + a.tmod b) % b = a.tmod b % b := by
      rw [Int.add_comm, Int.add_mul_emod_self_left]
    rw [h2] at this
    rw [this]
    exact Int.emod_eq_of_lt (by omega) (by omega)
theorem number_calls (a b : Int) (w : World) (hb : 0 < b) (hb2 : b < 4611686018427387904) :
    Calls Tryd.prog 6 #[.int .i64 a, .int .i64 b] w fun e w' => e = .returned (.int .i64 (a % b)) ∧ w' = w := by
  have hl := tmod_low a b hb
  have HE := hid (emod_of_tmod a b hb)
  have hbz : (b == 0) = false := by rw [beq_eq_false_iff_ne]; omega
  have hlt1 := hl.1
  have hlt2 := hl.2
  clear hl
  by_cases hn : a.tmod b < 0
  · go_enter Tryd.func6, Tryd.ntmps6
    go_wp2
    go_ret
    exact ⟨by rw [HE.out, if_pos hn]; rfl, rfl⟩
  · go_enter Tryd.func6, Tryd.ntmps6
    go_wp2
    go_ret
    exact ⟨by rw [HE.out, if_neg (by omega)]; rfl, rfl⟩
end Go.Proofs.YtenjpmegnjdobaaDoor
/- The law StreamSays. -/
namespace Go.Proofs.YtenjpmegnjdobaaDoor
open Go.RowKit Go.Cour
theorem numberN_calls (a b : Int) (w : World) (hb : 0 < b) (hb2 : b < 4611686018427387904) : Calls Tryd.prog 6 #[.int .i64 a, .int .i64 b] w fun e w' => ∃ k : Nat, (k : Int) < b ∧ e = .returned (.int .i64 (k : Int)) ∧ w = w' :=
  (number_calls a b w hb hb2).mono fun e w' ⟨h1, h2⟩ => ⟨(a % b).toNat, by have := Int.emod_nonneg a (show b ≠ 0 by omega); have := Int.emod_lt_of_pos a hb; omega, by rw [h1]; have := Int.emod_nonneg a (show b ≠ 0 by omega); congr 2; omega, h2.symm⟩
theorem allTexts_len (key xs : List Int) (q : Int) : (allTexts key xs q).length ≤ xs.length + 1 := by
  unfold allTexts
  rw [allTo_length]
  have := countI_bounds xs.length q
  omega
theorem allTexts_each (key xs : List Int) (q : Int) : ∀ X ∈ allTexts key xs q, X.length ≤ xs.length + 16 := by
  intro X hX
  unfold allTexts allTo at hX
  obtain ⟨i, _, rfl⟩ := List.mem_map.1 hX
  unfold ssealText
  rw [sealText_length]
  have := pieceOf_le xs q i
  omega
theorem sizeU8S : (Tryd.prog.info? 5).map (·.size) = some 1 := by kernel_rfl
set_option maxHeartbeats 10000000 in
set_option maxRecDepth 100000 in
theorem streamSays_calls (key xs : List Int) (size chunk i at_ nn by_ : Int) (last : Bool) (A : Option Addr) (n c : Nat) {w : World} {P : Nat → Addr} (hE : Errs w P) (hk : key.length = 32) (rk : bytesOk key)
    (hn : n = xs.length) (hA : A = none → c = 0) (hc : n ≤ c) (hr : Rd w A .u8 xs) (rx : bytesOk xs) (hnn : 0 ≤ nn ∧ nn < 4294967296) (hby : 0 ≤ by_ ∧ by_ < 256) :
    Calls Tryd.prog 3 #[.agg (ints .u8 key).toArray, .slice A n c, .int .i64 size, .int .i64 chunk, .int .i64 i, .int .u32 nn, .bool last, .int .i64 at_, .int .u8 by_] w fun e w' => e = .returned (.bool true) ∧ Below w.heap.size w w' := by
  have HK := hid hk
  have HN := hid hn
  have HR := hid hr
  have hS := HS.start NoF w
  clear hk hn hr
  by_cases hl : 300 < n
  · have hl2 : (300 : Int) < n := by omega
    go_enter Tryd.func3, Tryd.ntmps3
    go_wp2_with (first
      | (refine box_blk rfl 23 _ rfl _ rfl (ints .u8 key) rfl ?_; intro g9 w1 hga hba hBa hsa; replace hS := hS.pushBlk hBa hba hga; clear hga hba hBa hsa)
      | (go_at_call 5; refine (first16_calls _).mono ?_; rintro e w2 ⟨rfl, hB⟩; replace hS := hS.below hB; clear hB)
      | fail)
    go_ret
    exact ⟨rfl, hS.bel⟩
  · have hl2 : ¬ (300 : Int) < n := by omega
    have hl3 : n ≤ 300 := by omega
    go_enter Tryd.func3, Tryd.ntmps3
    go_wp2_with (first
      | (refine box_blk rfl 23 _ rfl _ rfl (ints .u8 key) rfl ?_; intro g9 w1 hga hba hBa hsa; replace hS := hS.pushBlk hBa hba hga; clear hga hba hBa hsa)
      | (go_at_call 5; refine (first16_calls _).mono ?_; rintro e w2 ⟨rfl, hB⟩; replace hS := hS.below hB; clear hB)
      | (have _ := mk1; go_at_call 6; (refine (numberN_calls _ 310 _ (by omega) (by omega)).mono ?_); rintro e wz ⟨k3, hk3, rfl, rfl⟩; have mk2 : True := trivial)
      | (have _ := mk0; go_at_call 6; (refine (numberN_calls _ 5000 _ (by omega) (by omega)).mono ?_); rintro e wz ⟨k2, hk2, rfl, rfl⟩; have mk1 : True := trivial)
      | (go_at_call 6; (refine (numberN_calls _ 70 _ (by omega) (by omega)).mono ?_); rintro e wz ⟨k1, hk1, rfl, rfl⟩; have mk0 : True := trivial)
      | (refine hs_loadW hS 0 rfl rfl 23 _ rfl rfl 32 info23 (by simp [HK.out]) _ arr23 rfl _ rfl ?_)
      | fail)
    clear mk0 mk1 mk2
    obtain ⟨q, hq⟩ : ∃ q : Int, (k1 : Int) - 2 = q := ⟨_, rfl⟩
    have hqb : -2 ≤ q ∧ q ≤ 68 := by omega
    rw [hq]
    clear hq
    obtain ⟨j, hj⟩ : ∃ j : Int, (k3 : Int) - 3 = j := ⟨_, rfl⟩
    have hjb : -3 ≤ j ∧ j ≤ 307 := by omega
    rw [hj]
    clear hj
    obtain ⟨TS, hTS⟩ : ∃ TS, Hd (allTexts key xs q = TS) := ⟨_, hid rfl⟩
    have hTL : Hd (TS.length ≤ 301) := hid (by rw [← hTS.out]; have := allTexts_len key xs q; rw [← HN.out] at this; omega)
    have hTE : Hd (∀ X ∈ TS, X.length ≤ 1000000) := hid (by rw [← hTS.out]; intro X hX; have := allTexts_each key xs q X hX; rw [← HN.out] at this; omega)
    have HRO : Hd (∀ {w'}, Below w.heap.size w w' → Rd w' A .u8 xs) := hid (fun hB => HR.out.below hB)
    refine (all_calls key xs q A n c _ HK.out rk HN.out hA hc (HRO.out hS.bel) (by rw [← HN.out]; omega) (by omega)).mono ?_
    rintro e w3 ⟨vx, rfl, hox, hB⟩
    have BX := hid hS.size
    replace hS := hS.pushSnap hB
    rw [hTS.out] at hox
    have HOX := hid hox
    obtain ⟨Ax, cx, rfl, hcx, hpx⟩ := ownL_prd hox
    clear hpx hox hB
    go_wp2_with (first
      | (refine hs_loadW hS 1 rfl rfl 23 _ rfl rfl 32 info23 (by simp [HK.out]) _ arr23 rfl _ rfl ?_)
      | fail)
    refine (all16_calls key xs q A n c _ HK.out rk rx HN.out hA hc (HRO.out hS.bel) (by rw [← HN.out]; omega) (by omega)).mono ?_
    rintro e w4 ⟨vy, rfl, hoy, hB⟩
    replace hS := hS.pushSnap hB
    rw [hTS.out] at hoy
    have HOY := hid hoy
    obtain ⟨Ay, cy, rfl, hcy, hpy⟩ := ownL_prd hoy
    clear hpy hoy hB
    obtain ⟨tn, htn⟩ : ∃ tn, Hd (TS.length = tn) := ⟨_, hid rfl⟩
    rw [htn.out] at HOX HOY hcx hcy hTL ⊢
    have hpx := hid (ownL_prd (HOX.out.snap (hS.snap 1 rfl)))
    have hpy := hid (ownL_prd (HOY.out.snap (hS.snap 0 rfl)))
    obtain ⟨PC, hPC⟩ : ∃ PC, Hd (pieceOf xs q j = PC) := ⟨_, hid rfl⟩
    obtain ⟨pn, hpn⟩ : ∃ pn, Hd (PC.length = pn) := ⟨_, hid rfl⟩
    have hpnb : pn ≤ 300 := by rw [← hpn.out, ← hPC.out]; have := pieceOf_le xs q j; rw [← HN.out] at this; omega
    obtain ⟨CN, hCN⟩ : ∃ CN, Hd (countI (k2 : Int) q = CN) := ⟨_, hid rfl⟩
    go_wp2_with (first
      | (go_at_call 9; refine (count_calls _ _ _ (by omega) (by omega)).mono ?_; rintro e w5 ⟨rfl, rfl⟩; rw [hCN.out])
      | (go_at_call 10; refine (count16_calls _ _ _ (by omega) (by omega)).mono ?_; rintro e w5 ⟨rfl, rfl⟩; rw [hCN.out])
      | (go_at_call 12; refine (piece_calls xs A n c q j _ HN.out hA hc (HRO.out hS.bel) (by rw [← HN.out]; omega) (by omega) (by omega)).mono ?_; rintro e w6 ⟨v6, rfl, ho6, hB⟩; rw [hPC.out] at ho6; (obtain ⟨A6, c6, rfl, hc6, hA6⟩ := ho6.partsL hpn.out); replace hS := hS.pushOwn hB ho6; clear ho6 hB hA6 hc6)
      | (go_at_call 13; refine (piece16_calls xs A n c q j _ HN.out hc (HRO.out hS.bel) (by rw [← HN.out]; omega) (by omega) (by omega)).mono ?_; rintro e w7 ⟨v7, rfl, ho7, hB⟩; rw [hPC.out] at ho7; (obtain ⟨A7, c7, rfl, hc7, hA7⟩ := ho7.partsL hpn.out); replace hS := hS.pushOwn hB ho7; clear ho7 hB hA7 hc7)
      | (go_at_call 11; refine (same_calls PC PC A6 A7 c6 c7 pn pn _ hpn.out.symm hpn.out.symm ((hS.os 1 rfl).rd rfl) ((hS.os 0 rfl).rd rfl) (by rw [hpn.out]; omega) (by rw [hpn.out]; omega)).mono ?_; rintro e w8 ⟨rfl, n8, hw8⟩; (replace hS := hS.drewN n8); (rw [← hw8] at hS); clear hw8; (have hdy : decide (PC = PC) = true := by simp); rw [hdy])
      | fail)
    replace hS : HS NoF w _ [.snap _ _, .snap _ _, .blk g9 23 (ints .u8 key)] := (hS.erase 0).erase 0
    refine (samePackets_calls TS TS Ax Ay tn tn cx cy _ htn.out htn.out (by obtain ⟨A', c', h1, h2, h3⟩ := ownL_prd (HOX.out.snap (hS.snap 1 rfl)); injection h1 with h1; subst h1; exact h3) (by obtain ⟨A', c', h1, h2, h3⟩ := ownL_prd (HOY.out.snap (hS.snap 0 rfl)); injection h1 with h1; subst h1; exact h3) (by have := hTL.out; omega) (by have := hTL.out; omega) hTE.out hTE.out).mono ?_
    rintro e w9 ⟨rfl, hB⟩
    replace hS := hS.below hB
    replace hS : HS NoF w w9 [.blk g9 23 (ints .u8 key)] := (hS.erase 0).erase 0
    clear hB
    have hdt : decide (TS = TS) = true := by simp
    rw [hdt]
    obtain ⟨ST, hST⟩ : ∃ ST, Hd (ssealText key nn last xs = ST) := ⟨_, hid rfl⟩
    obtain ⟨m, hm⟩ : ∃ m, Hd (ST.length = m) := ⟨_, hid rfl⟩
    have hmb : 16 ≤ m ∧ m ≤ 316 := by rw [← hm.out, ← hST.out]; unfold ssealText; rw [sealText_length, ← HN.out]; omega
    have rST : Hd (bytesOk ST) := hid (by rw [← hST.out]; exact sealText_ok _ _ _ _ rx)
    go_wp2_with (first
      | (refine hs_loadW hS 0 rfl rfl 23 _ rfl rfl 32 info23 (by simp [HK.out]) _ arr23 rfl _ rfl ?_)
      | fail)
    refine (sseal_calls key nn last xs A n c _ HK.out rk hnn HN.out (HRO.out hS.bel) (by rw [← HN.out]; omega)).mono ?_
    rintro e w10 ⟨v10, rfl, ho, hB⟩
    rw [hST.out] at ho
    obtain ⟨A10, cc, rfl, hcc, hA10⟩ := ho.partsL hm.out
    replace hS := hS.pushOwn hB ho
    clear ho hB hA10
    obtain ⟨gc, oc, rfl⟩ := ((hS.os 0 rfl).rd rfl).at (by rw [hm.out]; omega)
    replace hS : HS NoF w w10 [.os 5 (.slice (some ⟨gc, oc, none⟩) m cc) (ints .u8 ST), .blk g9 23 (ints .u8 key)] := hS
    go_wp2_with (first
      | (refine hs_loadW hS 1 rfl rfl 23 _ rfl rfl 32 info23 (by simp [HK.out]) _ arr23 rfl _ rfl ?_)
      | fail)
    refine (sseal16_calls key nn last xs A n c _ HK.out rk hnn HN.out (HRO.out hS.bel) rx (by rw [← HN.out]; omega)).mono ?_
    rintro e w11 ⟨v11, rfl, ho, hB⟩
    rw [hST.out] at ho
    obtain ⟨A11, c11, rfl, hc11, hA11⟩ := ho.partsL hm.out
    replace hS := hS.pushOwn hB ho
    clear ho hB hA11 hc11
    have hmz : ((m : Int) == 0) = false := by rw [beq_eq_false_iff_ne]; omega
    go_wp2_with (first
      | (go_at_call 11; refine (same_calls ST ST (some ⟨gc, oc, none⟩) A11 cc c11 m m _ hm.out.symm hm.out.symm ((hS.os 1 rfl).rd rfl) ((hS.os 0 rfl).rd rfl) (by rw [hm.out]; omega) (by rw [hm.out]; omega)).mono ?_; rintro e w12 ⟨rfl, n12, hw12⟩; (replace hS := hS.drewN n12); (rw [← hw12] at hS); clear hw12; (have hdy : decide (ST = ST) = true := by simp); rw [hdy])
      | fail)
    refine (numberN_calls _ (m : Int) _ (by omega) (by omega)).mono ?_
    rintro e wz ⟨kk, hkk, rfl, rfl⟩
    have hkm : kk < m := by omega
    obtain ⟨x0, hx0⟩ : ∃ x, Hd (rd ST kk = x) := ⟨_, hid rfl⟩
    have hx0b := rST.out kk
    rw [hx0.out] at hx0b
    obtain ⟨D, hD⟩ : ∃ D, Hd (ST.set kk (bits .xor .u8 x0 by_) = D) := ⟨_, hid rfl⟩
    have hDl : Hd (D.length = m) := hid (by rw [← hD.out, List.length_set]; exact hm.out)
    have rD : Hd (bytesOk D) := hid (by rw [← hD.out]; exact bytesOk_set rST.out _ _ (xor_u8_bound _ _ hx0b hby))
    have cbk := ((hS.os 1 rfl).rd rfl).cellAt kk (by rw [hm.out]; exact hkm)
    rw [hx0.out] at cbk
    obtain ⟨OP, hOP⟩ : ∃ OP, Hd (openOf key (nonceOf nn last) [] D = OP) := ⟨_, hid rfl⟩
    have hop2 : Hd (∀ j, OP = .inr j → j < 19) := hid (by rw [← hOP.out]; exact openOf_lt _ _ _ _)
    have hop1 : Hd ((opL OP).length ≤ 316) := hid (by have := openOf_opL key (nonceOf nn last) [] D; rw [hOP.out, hDl.out] at this; omega)
    obtain ⟨OL, hOL⟩ : ∃ OL, Hd (opL OP = OL) := ⟨_, hid rfl⟩
    rw [hOL.out] at hop1
    obtain ⟨ol, hol⟩ : ∃ ol, Hd (OL.length = ol) := ⟨_, hid rfl⟩
    rw [hol.out] at hop1
    go_wp2_with (first
      | (refine hs_loadW hS 2 rfl rfl 23 _ rfl rfl 32 info23 (by simp [HK.out]) _ arr23 rfl _ rfl ?_)
      | (refine hs_storeS hS 1 rfl rfl 5 _ _ rfl kk rfl (.int .u8 (bits .xor .u8 x0 by_)) rfl rfl sizeU8S (by simp [hm.out]; omega) _ rfl ?_; clear hS cbk; intro w13 hS; rw [ints_set, hD.out] at hS)
      | fail)
    replace hS : HS NoF w w13 [.os 5 (.slice (some ⟨gc, oc, none⟩) m cc) (ints .u8 D), .blk g9 23 (ints .u8 key)] := hS.erase 0
    refine (sopen_calls key nn last D (some ⟨gc, oc, none⟩) m cc (hE.two.below hS.bel) HK.out rk hnn hDl.out.symm hcc ((hS.os 0 rfl).rd rfl) rD.out (by rw [hDl.out]; omega)).mono ?_
    rintro e w14 ⟨v14, er, rfl, hop, hB⟩
    rw [hOP.out] at hop
    replace hS := hS.below hB
    clear hB
    go_wp2_with (first
      | (refine hs_loadW hS 1 rfl rfl 23 _ rfl rfl 32 info23 (by simp [HK.out]) _ arr23 rfl _ rfl ?_)
      | fail)
    refine (sopen16_calls key nn last D (some ⟨gc, oc, none⟩) m cc _ HK.out rk hnn hDl.out.symm hcc ((hS.os 0 rfl).rd rfl) rD.out (by rw [hDl.out]; omega)).mono ?_
    rintro e w15 ⟨v15, rfl, hop1y, hB⟩
    rw [hOP.out] at hop1y ⊢
    replace hS := hS.below hB
    replace hop := hop.below hB
    clear hB
    obtain ⟨A14, c14, hx, hr14⟩ := hop.rd
    obtain ⟨A15, c15, hy, hr15⟩ := hop1y.rd
    rw [hOL.out] at hx hr14 hy hr15
    rw [hol.out] at hx hy
    subst hx hy
    obtain ⟨kc, hkc⟩ : ∃ kc, codeR OP = kc := ⟨_, rfl⟩
    rw [hkc] at hop1y ⊢
    clear hkc
    go_wp2_with (first
      | (go_at_call 11; refine (same_calls OL OL A14 A15 c14 c15 ol ol _ hol.out.symm hol.out.symm hr14 hr15 (by rw [hol.out]; have := hop1.out; omega) (by rw [hol.out]; have := hop1.out; omega)).mono ?_; rintro e w16 ⟨rfl, n16, hw16⟩; (replace hS := hS.drewN n16); (rw [← hw16] at hS); clear hw16 hr14 hr15; (have hdy : decide (OL = OL) = true := by simp); rw [hdy])
      | (go_at_call 19; refine (is_op_calls (hE.below hS.bel) hop2.out hop hop1y).mono ?_; rintro e w17 ⟨rfl, hB⟩; replace hS := hS.below hB)
      | fail)
    go_ret
    exact ⟨rfl, hS.bel⟩
end Go.Proofs.YtenjpmegnjdobaaDoor
/- Pieces of a file: what counts them, what they are together. -/
namespace Go.Proofs.YtenjpmegnjdobaaDoor
open Go.RowKit Go.Cour
/-- Count, of a file of L bytes, by chunks of C. -/
theorem count_facts (L : Nat) (C : Int) (hC : 1 ≤ C) : ∃ d : Int, (L : Int) / C = d ∧ 0 ≤ d ∧ d * C ≤ L ∧ (L : Int) < (d + 1) * C ∧ countI L C = max (if d * C < L then d + 1 else d) 1 := by
  have m1 : max C 1 = C := by omega
  have m2 : max (L : Int) 0 = L := by omega
  refine ⟨(L : Int) / C, rfl, Int.ediv_nonneg (by omega) (by omega), Int.ediv_mul_le _ (by omega), ?_, ?_⟩
  · exact Int.lt_ediv_add_one_mul_self _ (by omega)
  · unfold countI countD
    rw [m1, m2]
theorem mul_lt_of {a b C : Int} (hC : 1 ≤ C) (h : a * C < b * C) : a < b := Int.lt_of_mul_lt_mul_right h (by omega)
/-- A piece that is there. -/
theorem pieceOf_at (xs : List Int) (C : Int) (i : Nat) (hC : 1 ≤ C) (hi : (i : Int) ≤ (xs.length : Int) / C) : pieceOf xs C i = (xs.drop (i * C.toNat)).take C.toNat := by
  have m1 : max C 1 = C := by omega
  have e : ((i : Int) * C).toNat = i * C.toNat := by
    have hc2 : C = (C.toNat : Int) := by omega
    rw [hc2, ← Int.natCast_mul, Int.toNat_natCast, Int.toNat_natCast]
  rw [pieceOf, m1, if_neg (by omega), e]
theorem lt_count (L : Nat) (C : Int) (hC : 1 ≤ C) (i : Nat) (h : (i : Int) < countI L C) : (i : Int) ≤ (L : Int) / C := by
  obtain ⟨d, h1, h2, h3, h4, h5⟩ := count_facts L C hC
  rw [h1]
  rw [h5] at h
  generalize d * C = e at *
  split at h <;> omega
theorem take_piece (xs : List Int) (C : Int) (i : Nat) (hC : 1 ≤ C) (h : (i : Int) < countI xs.length C) :
    xs.take (i * C.toNat) ++ pieceOf xs C i = xs.take ((i + 1) * C.toNat) := by
  rw [pieceOf_at xs C i hC (lt_count _ C hC i h), Nat.add_mul, Nat.one_mul, List.take_add]
theorem take_all (xs : List Int) (C : Int) (N : Nat) (hC : 1 ≤ C) (h : countI xs.length C = (N : Int)) : xs.take (N * C.toNat) = xs := by
  obtain ⟨d, h1, h2, h3, h4, h5⟩ := count_facts xs.length C hC
  refine List.take_of_length_le ?_
  have e : ((N * C.toNat : Nat) : Int) = (N : Int) * C := by
    have hc2 : C = (C.toNat : Int) := by omega
    rw [Int.natCast_mul, ← hc2]
  have h6 : (xs.length : Int) ≤ (N : Int) * C := by
    rw [← h, h5]
    split
    · have : (d + 1) * C ≤ max (d + 1) 1 * C := Int.mul_le_mul_of_nonneg_right (by omega) (by omega)
      omega
    · have : d * C ≤ max d 1 * C := Int.mul_le_mul_of_nonneg_right (by omega) (by omega)
      omega
  omega
/-- How long a piece is. -/
theorem piece_len (xs : List Int) (C : Int) (i N : Nat) (hC : 1 ≤ C) (h : countI xs.length C = (N : Int)) (hi : i < N) :
    ((pieceOf xs C i).length : Int) ≤ C ∧ (i + 1 < N → ((pieceOf xs C i).length : Int) = C) ∧ (i + 1 = N → (pieceOf xs C i).length = 0 → xs.length = 0) := by
  obtain ⟨d, h1, h2, h3, h4, h5⟩ := count_facts xs.length C hC
  have hid := lt_count xs.length C hC i (by omega)
  rw [pieceOf_at xs C i hC hid, List.length_take, List.length_drop]
  rw [h1] at hid
  have e : ((i * C.toNat : Nat) : Int) = (i : Int) * C := by
    have hc2 : C = (C.toNat : Int) := by omega
    rw [Int.natCast_mul, ← hc2]
  have h6 : (i : Int) * C ≤ d * C := Int.mul_le_mul_of_nonneg_right hid (by omega)
  have h7 : i + 1 < N → ((i : Int) + 1) * C ≤ d * C := fun hlt => by
    refine Int.mul_le_mul_of_nonneg_right ?_ (by omega)
    rw [h5] at h
    generalize d * C = e at *
    split at h <;> omega
  have h8 : i + 1 = N → (i : Int) * C < xs.length ∨ xs.length = 0 := fun hlt => by
    rw [h5] at h
    split at h
    · have : (i : Int) = d := by omega
      rw [this]
      omega
    · by_cases hd : d = 0
      · subst hd
        right
        rw [Int.zero_mul] at *
        omega
      · left
        have : (i : Int) = d - 1 := by omega
        rw [this, Int.sub_mul, Int.one_mul]
        omega
  have h9 : ((i : Int) + 1) * C = (i : Int) * C + C := by rw [Int.add_mul, Int.one_mul]
  rw [h9] at h7
  generalize (i : Int) * C = ic at *
  generalize i * C.toNat = ic' at *
  generalize d * C = dc at *
  refine ⟨by omega, fun hlt => ?_, fun hlt hz => ?_⟩
  · have := h7 hlt
    omega
  · have := h8 hlt
    omega
/-- Beyond them there is nothing. -/
theorem piece_far (xs : List Int) (C : Int) (N : Nat) (far : Int) (hC : 1 ≤ C) (h : countI xs.length C = (N : Int)) (hf : 0 ≤ far) : pieceOf xs C ((N : Int) + far) = [] := by
  obtain ⟨d, h1, h2, h3, h4, h5⟩ := count_facts xs.length C hC
  have m1 : max C 1 = C := by omega
  unfold pieceOf
  rw [m1, h1]
  by_cases hlt : d < (N : Int) + far
  · rw [if_pos (.inr hlt)]
  · have hd : (N : Int) + far = d := by
      rw [h5] at h
      generalize d * C = e at *
      split at h <;> omega
    have hz : d * C = xs.length := by
      rw [h5] at h
      split at h
      · omega
      · generalize d * C = e at *; omega
    rw [if_neg (by omega), hd, List.drop_eq_nil_of_le (by omega), List.take_nil]
theorem piece_neg (xs : List Int) (C i : Int) (h : i < 0) : pieceOf xs C i = [] := by rw [pieceOf, if_pos (.inl h)]
theorem count_zero (L : Nat) : countI L 0 = max (L : Int) 1 := by
  have h : (max (L : Int) 0 / max 0 1) = L := by
    rw [show max (0 : Int) 1 = 1 from rfl, Int.ediv_one]; omega
  unfold countI countD
  rw [h, show max (0 : Int) 1 = 1 from rfl, Int.mul_one, if_neg (by omega)]
theorem count_neg (p q : Int) (h : p < 0) : countI p q = 1 := by
  unfold countI countD
  rw [show max p 0 = 0 by omega, Int.zero_ediv, Int.zero_mul, if_neg (by omega)]
  rfl
end Go.Proofs.YtenjpmegnjdobaaDoor
/- Key, of a number: 32 numbers that are bytes. -/
namespace Go.Proofs.YtenjpmegnjdobaaDoor
open Go.RowKit Go.Cour
theorem info_key : (Tryd.prog.info? 23).map (·.size) = some 32 := by kernel_rfl
theorem arr_key : Tryd.prog.underlying 23 = some (.array 32 5) := by kernel_rfl
set_option maxHeartbeats 1000000 in
set_option maxRecDepth 100000 in
theorem keyB_calls (n : Int) (w : World) :
    Calls Tryd.prog 20 #[.int .i64 n] w fun e w' => ∃ xs : List Int, xs.length = 32 ∧ bytesOk xs ∧ e = .returned (.agg (ints .u8 xs).toArray) ∧ Below w.heap.size w w' := by
  go_enter Tryd.func20, Tryd.ntmps20
  go_wp2
  go_loopg [4] 32 (fun kq v4 wr => ∃ (i : Nat) (xs : List Int), i ≤ 32 ∧ v4 = .int .i64 i ∧ Hd (kq = 32 - i) ∧ Hd (xs.length = 32 ∧ bytesOk xs) ∧ Blk wr (w.heap.size + 1) 23 (ints .u8 xs) ∧ Blk wr w.heap.size 23 (ints .u8 (List.replicate 32 0)) ∧ Hd (Below w.heap.size w wr))
  case atStart =>
    refine ⟨0, List.replicate 32 0, by omega, rfl, hid rfl, hid ⟨rfl, bytesOk_zeros' 32⟩, ?_, ?_, hid ?_⟩
    · exact Blk.new' (w.alloc _) 23 (ints .u8 (List.replicate 32 0)) _ (by simp)
    · exact (Blk.new w 23 (ints .u8 (List.replicate 32 0))).alloc _
    · exact ((Below.refl _ _).alloc (Nat.le_refl _) _).alloc (by simp) _
  case round =>
    obtain ⟨i, xs, hi, rfl, hk, hl, h1, h0, hb⟩ := hrel
    by_cases hlt : i < 32
    · have hc := h1.cellI i (by have := hl.out.1; omega)
      have hf := h1.frozen i
      go_wp2
      go_roundg (gk - 1)
      case measure => have := hk.out; omega
      case rel =>
        refine ⟨i + 1, _, by omega, by go_num, hid ?_, hid ?_, h1.setI i _, h0.setOther (by simp) _, hid (hb.out.setCell (by simp) _)⟩
        · have := hk.out; omega
        · exact ⟨by simpa using hl.out.1, bytesOk_set hl.out.2 _ _ (by first | exact ⟨Int.emod_nonneg _ (by decide), Int.emod_lt_of_pos _ (by decide)⟩ | omega)⟩
    · have hl32 : (ints .u8 xs).length = 32 := by simpa using hl.out.1
      go_wp2_with (first
        | (refine load_blk rfl 23 _ rfl (w.heap.size + 1) rfl 23 _ h1 32 5 arr_key hl32 info_key ?_)
        | (refine store_blk rfl 23 _ _ rfl w.heap.size _ rfl rfl 23 _ h0 32 info_key hl32 (by simp) (ints_one _ _) ?_))
      refine bodyPost_ret (results_blk rfl _ _ w.heap.size 23 _ 32 5 rfl (h0.setRow _) arr_key hl32 info_key) rfl ?_
      exact ⟨xs, hl.out.1, hl.out.2, rfl, below_setRow hb.out (Nat.le_refl _) _⟩
end Go.Proofs.YtenjpmegnjdobaaDoor
