import Derived.StillTail
import Derived.Tactics
import Derived.Orders
import Derived.KernelRfl
import Derived.Test.YtlikinglgegclaaDoorMgTO0
import Derived.Test.YtlikinglgegclaaDoorMgTO1
import Derived.Test.YtlikinglgegclaaDoorMgTO2
import Derived.Test.YtlikinglgegclaaDoorMgTO3
set_option linter.unusedSimpArgs false
set_option linter.unusedVariables false
open List (getElem_toArray getElem_cons_zero getElem_cons_succ)
/- A region that draws its order: one fact for each operation, shown once; whatever the order, all facts hold behind it. -/
namespace Go.Cour
/-- What is known of an operation's value, and of the world; it speaks of the values of the operations idx only. -/
structure Fact where
  idx : List Nat
  p : (Nat → Value) → World → Prop
def Fact.at (f : Fact) (vs : Nat → Value) (w : World) : Prop := f.p (fun i => if f.idx.contains i then vs i else undef) w
theorem Fact.at_congr (f : Fact) {vs us : Nat → Value} (h : ∀ i ∈ f.idx, vs i = us i) {w : World} (hf : f.at vs w) : f.at us w := by
  unfold Fact.at at *
  have : (fun i => if f.idx.contains i then vs i else undef) = (fun i => if f.idx.contains i then us i else undef) := by
    funext i
    by_cases hc : f.idx.contains i = true
    · simp only [hc, if_true]; exact h i (by simpa using hc)
    · rw [if_neg hc, if_neg hc]
  rw [← this]; exact hf
/-- The operations' values, laid in their order. -/
def fill (vs : Nat → Value) : Nat → List Oper → Act → Act
  | _, [], a => a
  | k, o :: rest, a => fill vs (k + 1) rest (a.put o.dst (vs k))
def got (a : Act) : Option Tmp → Value
  | some d => a.tmps.getD d undef
  | none => undef
theorem put_defers (a : Act) (d : Option Tmp) (v : Value) : (a.put d v).defers = a.defers := by cases d <;> rfl
theorem put_size (a : Act) (d : Option Tmp) (v : Value) : (a.put d v).tmps.size = a.tmps.size := by cases d <;> simp [Act.put]
theorem put_other (a : Act) (d : Option Tmp) (v : Value) (t : Nat) (h : d ≠ some t) : (a.put d v).tmps[t]? = a.tmps[t]? := by
  cases d with
  | none => rfl
  | some e => exact Array.getElem?_setIfInBounds_ne (by intro he; exact h (by rw [he]))
theorem put_same (a : Act) (t : Nat) (v : Value) (h : t < a.tmps.size) : (a.put (some t) v).tmps[t]? = some v := by
  simp [Act.put, h]
theorem fill_defers (vs : Nat → Value) : ∀ (l : List Oper) (k : Nat) (a : Act), (fill vs k l a).defers = a.defers
  | [], _, _ => rfl
  | o :: l, k, a => by simp only [fill]; rw [fill_defers vs l, put_defers]
theorem fill_size (vs : Nat → Value) : ∀ (l : List Oper) (k : Nat) (a : Act), (fill vs k l a).tmps.size = a.tmps.size
  | [], _, _ => rfl
  | o :: l, k, a => by simp only [fill]; rw [fill_size vs l, put_size]
theorem fill_other (vs : Nat → Value) (t : Nat) : ∀ (l : List Oper) (k : Nat) (a : Act), (∀ o ∈ l, o.dst ≠ some t) → (fill vs k l a).tmps[t]? = a.tmps[t]?
  | [], _, _, _ => rfl
  | o :: l, k, a, h => by
    simp only [fill]
    rw [fill_other vs t l _ _ (fun o' ho' => h o' (List.mem_cons_of_mem _ ho')), put_other _ _ _ _ (h o (List.mem_cons_self ..))]
theorem fill_at (vs : Nat → Value) (t : Nat) : ∀ (l : List Oper) (k : Nat) (a : Act) (j : Nat) (o : Oper), l[j]? = some o → o.dst = some t → t < a.tmps.size →
    (∀ j' o', l[j']? = some o' → j' ≠ j → o'.dst ≠ some t) → (fill vs k l a).tmps[t]? = some (vs (k + j))
  | [], _, _, j, o, h, _, _, _ => by simp at h
  | o0 :: l, k, a, 0, o, h, hd, ht, hdist => by
    simp only [List.getElem?_cons_zero, Option.some.injEq] at h
    subst h
    simp only [fill]
    rw [fill_other vs t l _ _ (fun o' ho' => by
      obtain ⟨j', hj'⟩ := List.getElem?_of_mem ho'
      exact hdist (j' + 1) o' (by simpa using hj') (by omega)), hd, put_same _ _ _ ht]
    rfl
  | o0 :: l, k, a, j + 1, o, h, hd, ht, hdist => by
    simp only [fill]
    rw [fill_at vs t l (k + 1) _ j o (by simpa using h) hd (by rw [put_size]; exact ht) (fun j' o' h1 h2 => hdist (j' + 1) o' (by simpa using h1) (by omega))]
    congr 2; omega
/-- What stands behind operation i. -/
structure FPost (a0 : Act) (S : World → Prop) (R : World → World → Prop) (f : Fact) (i : Nat) (d : Option Tmp) (vs : Nat → Value) (w : World) (a' : Act) (w' : World) : Prop where
  defers : a'.defers = a0.defers
  fact : f.at (fun j => if j = i then got a' d else vs j) w'
  s : S w'
  r : R w w'
section
variable (P : Program) (ops : Array Oper) (a0 : Act) (S : World → Prop) (R : World → World → Prop) (F : Nat → Fact)
/-- Operation i, with what it waits for behind it, shows its fact. -/
def FStep (i : Nat) (o : Oper) : Prop := ∀ (vs : Nat → Value) (w : World), S w → (∀ e ∈ o.after, Region.binds .any e = true → (F e.on).at vs w) →
  wpList P ops (fun ex a' w' => match ex with
    | .normal => FPost a0 S R (F i) i o.dst vs w a' w'
    | _ => False) [o] (fill vs 0 (ops.toList.take i) a0) w
def FSteps : Nat → List Oper → Prop
  | _, [] => True
  | k, o :: rest => FStep P ops a0 S R F k o ∧ FSteps (k + 1) rest
theorem FSteps.get : ∀ (l : List Oper) (k : Nat), FSteps P ops a0 S R F k l → ∀ j o, l[j]? = some o → FStep P ops a0 S R F (k + j) o
  | [], _, _, j, o, h => by simp at h
  | o0 :: l, k, hs, 0, o, h => by simp only [List.getElem?_cons_zero, Option.some.injEq] at h; subst h; exact hs.1
  | o0 :: l, k, hs, j + 1, o, h => by
    have := FSteps.get l (k + 1) hs.2 j o (by simpa using h)
    rwa [show k + 1 + j = k + (j + 1) by omega] at this
end
/-- Operation k stands behind operation i, by n steps at most. -/
def waitsT (ops : Array Oper) : Nat → Nat → Nat → Bool
  | 0, k, i => k == i
  | n + 1, k, i => k == i || (match ops[k]? with
    | some o => o.after.any fun e => Region.binds .any e && waitsT ops n e.on i
    | none => false)
def isSelect : Op → Bool
  | .select _ _ => true
  | _ => false
/-- What the law asks of the region's text. -/
def chkOne (ops : Array Oper) (ix : List (List Nat)) (i : Nat) : Bool :=
  match ops[i]? with
  | none => true
  | some o => (o.after.all fun e => !Region.binds .any e || decide (e.on < i)) && !isSelect o.op &&
    ((o.looksAt ops).all fun t => (List.range ops.size).all fun j => (((ops[j]?).bind (·.dst)) != some t) || (Region.waitsFor .any ops i j) || (decide (i ≤ j) && waitsT ops 30 j i)) &&
    ((List.range ops.size).all fun j => j == i || o.dst.isNone || (((ops[j]?).bind (·.dst)) != o.dst)) &&
    ((ix.getD i []).all fun j => j == i || Region.waitsFor .any ops i j)
def chk (ops : Array Oper) (ix : List (List Nat)) : Bool := (List.range ops.size).all (chkOne ops ix)
structure Chk (ops : Array Oper) (ix : List (List Nat)) : Prop where
  back : ∀ (i : Nat) (o : Oper), ops[i]? = some o → ∀ e ∈ o.after, Region.binds .any e = true → e.on < i
  sel : ∀ (i : Nat) (o : Oper), ops[i]? = some o → ∀ cs b, o.op ≠ .select cs b
  looks : ∀ (i : Nat) (o : Oper), ops[i]? = some o → ∀ t ∈ o.looksAt ops, ∀ (j : Nat) (oj : Oper), ops[j]? = some oj → oj.dst = some t → (∃ e ∈ o.after, Region.binds .any e = true ∧ e.on = j) ∨ (i ≤ j ∧ waitsT ops 30 j i = true)
  dist : ∀ (i : Nat) (o : Oper), ops[i]? = some o → ∀ (j : Nat) (oj : Oper), ops[j]? = some oj → j ≠ i → ∀ t, o.dst = some t → oj.dst ≠ some t
  ixs : ∀ (i : Nat) (o : Oper), ops[i]? = some o → ∀ j ∈ ix.getD i [], j = i ∨ ∃ e ∈ o.after, Region.binds .any e = true ∧ e.on = j
theorem chk_spec {ops : Array Oper} {ix : List (List Nat)} (h : chk ops ix = true) : Chk ops ix := by
  have h1 : ∀ i o, ops[i]? = some o → chkOne ops ix i = true := fun i o ho =>
    List.all_eq_true.1 h i (List.mem_range.2 (Array.getElem?_eq_some_iff.1 ho).1)
  have wf : ∀ i o j, ops[i]? = some o → Region.waitsFor .any ops i j = true → ∃ e ∈ o.after, Region.binds .any e = true ∧ e.on = j := fun i o j ho hw => by
    obtain ⟨oj, hoj, e, he, hb, hon⟩ := Region.waitsFor_spec hw
    have : oj = o := Option.some.inj (hoj.symm.trans ho)
    subst this
    exact ⟨e, he, hb, hon⟩
  have h2 : ∀ i o, ops[i]? = some o → (((o.after.all fun e => !Region.binds .any e || decide (e.on < i)) = true ∧ isSelect o.op = false) ∧
    ((o.looksAt ops).all fun t => (List.range ops.size).all fun j => (((ops[j]?).bind (·.dst)) != some t) || (Region.waitsFor .any ops i j) || (decide (i ≤ j) && waitsT ops 30 j i)) = true) ∧
    ((List.range ops.size).all fun j => j == i || o.dst.isNone || (((ops[j]?).bind (·.dst)) != o.dst)) = true ∧
    ((ix.getD i []).all fun j => j == i || Region.waitsFor .any ops i j) = true := fun i o ho => by
    have := h1 i o ho
    unfold chkOne at this
    simp only [ho, Bool.and_eq_true, Bool.not_eq_true'] at this
    exact ⟨⟨this.1.1.1, this.1.1.2⟩, this.1.2, this.2⟩
  refine ⟨fun i o ho e he hb => ?_, fun i o ho cs b hs => ?_, fun i o ho t ht j oj hj hd => ?_, fun i o ho j oj hj hne t ht htj => ?_, fun i o ho j hj => ?_⟩
  · have := Array.all_eq_true'.1 (h2 i o ho).1.1.1 e he
    simpa [hb] using this
  · have := (h2 i o ho).1.1.2
    rw [hs] at this
    simp [isSelect] at this
  · have := List.all_eq_true.1 (List.all_eq_true.1 (h2 i o ho).1.2 t ht) j (List.mem_range.2 (Array.getElem?_eq_some_iff.1 hj).1)
    simp only [hj, Option.bind_some, hd, Bool.or_eq_true, bne_self_eq_false, Bool.false_eq_true, false_or, Bool.and_eq_true, decide_eq_true_eq] at this
    exact this.imp (wf i o j ho) id
  · have := List.all_eq_true.1 (h2 i o ho).2.1 j (List.mem_range.2 (Array.getElem?_eq_some_iff.1 hj).1)
    simp [hj, ht, htj, hne] at this
  · have := List.all_eq_true.1 (h2 i o ho).2.2 j hj
    simp only [Bool.or_eq_true, beq_iff_eq] at this
    exact this.imp id (wf i o j ho)
section
variable {P : Program} {ops : Array Oper} {a0 : Act} {S : World → Prop} {R : World → World → Prop} {ix : List (List Nat)} {p : Nat → (Nat → Value) → World → Prop} {Q : Exit → Act → World → Prop}
structure FInv (ops : Array Oper) (a0 : Act) (S : World → Prop) (F : Nat → Fact) (listed : Array Bool) (vs : Nat → Value) (a : Act) (w : World) : Prop where
  lsize : listed.size = ops.size
  closed : ∀ (j : Nat) (oj : Oper), ops[j]? = some oj → listed.getD j false = true → ∀ e ∈ oj.after, Region.binds .any e = true → listed.getD e.on false = true
  size : a.tmps.size = a0.tmps.size
  defers : a.defers = a0.defers
  slot : ∀ (j : Nat) (o : Oper) (d : Nat), ops[j]? = some o → listed.getD j false = true → o.dst = some d → d < a0.tmps.size → a.tmps[d]? = some (vs j)
  other : ∀ (t : Nat), (∀ (j : Nat) (o : Oper), ops[j]? = some o → listed.getD j false = true → o.dst ≠ some t) → a.tmps[t]? = a0.tmps[t]?
  s : S w
  facts : ∀ (j : Nat) (o : Oper), ops[j]? = some o → listed.getD j false = true → (F j).at vs w
theorem FInv.filled {F : Nat → Fact} {listed : Array Bool} {vs : Nat → Value} {a : Act} {w : World} (hc : Chk ops ix) (h : FInv ops a0 S F listed vs a w)
    (hall : ∀ j, j < ops.size → listed.getD j false = true) : a = fill vs 0 ops.toList a0 := by
  have ht : ∀ t : Nat, a.tmps[t]? = (fill vs 0 ops.toList a0).tmps[t]? := fun t => by
    by_cases hx : ∃ (j : Nat) (o : Oper), ops[j]? = some o ∧ o.dst = some t
    · obtain ⟨j, o, ho, hd⟩ := hx
      have hj := (Array.getElem?_eq_some_iff.1 ho).1
      by_cases hlt : t < a0.tmps.size
      · rw [h.slot j o t ho (hall j hj) hd hlt, fill_at vs t ops.toList 0 a0 j o (by simpa using ho) hd hlt (fun j' o' h1 h2 => hc.dist j o ho j' o' (by simpa using h1) h2 t hd)]
        simp
      · rw [Array.getElem?_eq_none (by rw [h.size]; omega), Array.getElem?_eq_none (by rw [fill_size]; omega)]
    · rw [h.other t (fun j o ho _ hd => hx ⟨j, o, ho, hd⟩), fill_other vs t _ _ _ (fun o ho hd => by
        obtain ⟨j, hj⟩ := List.getElem?_of_mem ho
        exact hx ⟨j, o, by simpa using hj, hd⟩)]
  have h1 : a.tmps = (fill vs 0 ops.toList a0).tmps := Array.ext_getElem? ht
  have h2 : a.defers = (fill vs 0 ops.toList a0).defers := by rw [fill_defers, h.defers]
  cases a; cases hf : fill vs 0 ops.toList a0
  rw [hf] at h1 h2
  simp_all
theorem FInv.waits {F : Nat → Fact} {listed : Array Bool} {vs : Nat → Value} {a : Act} {w : World} (h : FInv ops a0 S F listed vs a w) {i : Nat} (hun : listed.getD i true = false) :
    ∀ (n k : Nat), waitsT ops n k i = true → listed.getD k true = false
  | 0, k, hw => by
    have : k = i := by simpa [waitsT] using hw
    rw [this]; exact hun
  | n + 1, k, hw => by
    unfold waitsT at hw
    rw [Bool.or_eq_true] at hw
    rcases hw with hw | hw
    · have : k = i := by simpa using hw
      rw [this]; exact hun
    · cases ho : ops[k]? with
      | none => simp [ho] at hw
      | some o =>
        simp only [ho] at hw
        obtain ⟨e, he, hb⟩ := Array.any_eq_true'.1 hw
        simp only [Bool.and_eq_true] at hb
        have h1 := FInv.waits h hun n e.on hb.2
        have hlt := (Array.getElem?_eq_some_iff.1 ho).1
        cases hl : listed.getD k false with
        | false => exact getD_in (by rw [h.lsize]; exact hlt) hl
        | true =>
          have := h.closed k o ho hl e he hb.1
          rw [getD_both h1] at this
          cases this
/-- Where an operation looks, the state at hand and the state filled in order are alike. -/
theorem FInv.alike {F : Nat → Fact} {listed : Array Bool} {vs : Nat → Value} {a : Act} {w : World} (hc : Chk ops ix) (h : FInv ops a0 S F listed vs a w)
    {i : Nat} {o : Oper} (ho : ops[i]? = some o) (hd : ∀ e ∈ o.after, Region.binds .any e = true → listed.getD e.on false = true) (hun : listed.getD i true = false) (t : Nat) (ht : t ∈ o.looksAt ops) :
    a.tmps[t]? = (fill vs 0 (ops.toList.take i) a0).tmps[t]? := by
  by_cases hx : ∃ (j : Nat) (oj : Oper), ops[j]? = some oj ∧ oj.dst = some t
  · obtain ⟨j, oj, hj, hdj⟩ := hx
    rcases hc.looks i o ho t ht j oj hj hdj with ⟨e, he, hb, rfl⟩ | ⟨hij, hwt⟩
    case inr =>
      have hnl := h.waits hun 30 j hwt
      rw [h.other t (fun j' oj' hj' hl' hd' => by
        by_cases hjj : j' = j
        · subst hjj; rw [getD_both hnl] at hl'; cases hl'
        · exact hc.dist j oj hj j' oj' hj' hjj t hdj hd')]
      rw [fill_other vs t _ _ _ (fun oj' hoj' hdj' => by
        obtain ⟨j', hj'⟩ := List.getElem?_of_mem hoj'
        have hlt' : j' < i := by
          rcases Nat.lt_or_ge j' i with hh | hh
          · exact hh
          · rw [List.getElem?_take_eq_none hh] at hj'; cases hj'
        rw [List.getElem?_take_of_lt hlt'] at hj'
        exact hc.dist j oj hj j' oj' (by simpa using hj') (by omega) t hdj hdj')]
    have hlt := hc.back i o ho e he hb
    by_cases hs : t < a0.tmps.size
    · rw [h.slot _ oj t hj (hd e he hb) hdj hs, fill_at vs t _ 0 a0 e.on oj (by rw [List.getElem?_take_of_lt hlt]; simpa using hj) hdj hs (fun j' o' h1 h2 =>
        hc.dist e.on oj hj j' o' (by
          have : j' < i := by
            rcases Nat.lt_or_ge j' i with hh | hh
            · exact hh
            · rw [List.getElem?_take_eq_none hh] at h1; cases h1
          rw [List.getElem?_take_of_lt this] at h1; simpa using h1) h2 t hdj)]
      simp
    · rw [Array.getElem?_eq_none (by rw [h.size]; omega), Array.getElem?_eq_none (by rw [fill_size]; omega)]
  · rw [h.other t (fun j oj hj _ hdj => hx ⟨j, oj, hj, hdj⟩), fill_other vs t _ _ _ (fun oj hoj hdj => by
      obtain ⟨j, hj⟩ := List.getElem?_of_mem (List.mem_of_mem_take hoj)
      exact hx ⟨j, oj, by simpa using hj, hdj⟩)]
theorem facts_go (hc : Chk ops ix) (hR : ∀ j vs w w', R w w' → (Fact.mk (ix.getD j []) (p j)).at vs w → (Fact.mk (ix.getD j []) (p j)).at vs w')
    (hs : FSteps P ops a0 S R (fun i => ⟨ix.getD i [], p i⟩) 0 ops.toList)
    (hQ : ∀ vs w', (∀ j, j < ops.size → (Fact.mk (ix.getD j []) (p j)).at vs w') → S w' → Q .normal (fill vs 0 ops.toList a0) w') :
    ∀ (fuel : Nat) (listed : Array Bool) (U : List Nat) (vs : Nat → Value) (a : Act) (w : World), (∀ i, i < ops.size → listed.getD i true = false → i ∈ U) → U.length ≤ fuel →
      FInv ops a0 S (fun i => ⟨ix.getD i [], p i⟩) listed vs a w → wpAny P .any ops Q fuel listed a w := by
  have fin : ∀ (listed : Array Bool) (vs : Nat → Value) (a : Act) (w : World), FInv ops a0 S (fun i => ⟨ix.getD i [], p i⟩) listed vs a w → Region.ready .any ops listed = [] → Q .normal a w := fun listed vs a w hi hr => by
    have hall : ∀ n j, j < n → j < ops.size → listed.getD j false = true := fun n => by
      induction n with
      | zero => intro j hj; omega
      | succ n ih =>
        intro j hj hlt
        by_cases hjn : j < n
        · exact ih j hjn hlt
        · have hjn' : j = n := by omega
          subst hjn'
          cases hl : listed.getD j false with
          | true => rfl
          | false =>
            have hun := getD_in (by rw [hi.lsize]; exact hlt) hl
            have ho : ops[j]? = some ops[j] := Array.getElem?_eq_getElem hlt
            have : j ∈ Region.ready .any ops listed := mem_ready.2 ⟨hun, ops[j], ho, fun e he hb => ih e.on (hc.back j _ ho e he hb) (by have := hc.back j _ ho e he hb; omega)⟩
            rw [hr] at this
            cases this
    rw [hi.filled hc (fun j hj => hall (j + 1) j (by omega) hj)]
    exact hQ vs w (fun j hj => hi.facts j ops[j] (Array.getElem?_eq_getElem hj) (hall (j + 1) j (by omega) hj)) hi.s
  intro fuel
  induction fuel with
  | zero =>
    intro listed U vs a w hU hl hi
    have hr : Region.ready .any ops listed = [] := by
      rcases hx : Region.ready .any ops listed with _ | ⟨i, l⟩
      · rfl
      · have hm : i ∈ Region.ready .any ops listed := by rw [hx]; exact List.mem_cons_self ..
        obtain ⟨hun, o, ho, _⟩ := mem_ready.1 hm
        have := hU i (Array.getElem?_eq_some_iff.1 ho).1 hun
        have hU0 : U = [] := List.length_eq_zero_iff.1 (by omega)
        rw [hU0] at this
        cases this
    exact ⟨hr, fin listed vs a w hi hr⟩
  | succ fuel ih =>
    intro listed U vs a w hU hl hi
    refine ⟨fin listed vs a w hi, fun i hir => ?_⟩
    obtain ⟨hun, o, ho, hall⟩ := mem_ready.1 hir
    have hlt := (Array.getElem?_eq_some_iff.1 ho).1
    have hst := FSteps.get P ops a0 S R _ ops.toList 0 hs i o (by simpa using ho)
    rw [Nat.zero_add] at hst
    have hstep := hst vs w hi.s (fun e he hb => hi.facts e.on _ (Array.getElem?_eq_getElem (by have := hc.back i o ho e he hb; omega)) (hall e he hb))
    have hal := hi.alike hc ho hall hun
    have hex : execOp a.eval o = execOp (fill vs 0 (ops.toList.take i) a0).eval o := execOp_congr o (hc.sel i o ho) fun x hx => by
      cases x with
      | tmp t =>
        have ht : t ∈ o.looksAt ops := List.mem_append_left _ (List.mem_filterMap.2 ⟨.tmp t, by simpa using hx, rfl⟩)
        have := hal t ht
        simp only [Act.eval, Array.getD_eq_getD_getElem?, this]
      | _ => rfl
    have hwa : Region.wanted o (yielded ops a.tmps) = Region.wanted o (yielded ops (fill vs 0 (ops.toList.take i) a0).tmps) := by
      unfold Region.wanted
      cases hg : o.guard with
      | none => rfl
      | some g =>
        obtain ⟨g, want⟩ := g
        have : yielded ops a.tmps g = yielded ops (fill vs 0 (ops.toList.take i) a0).tmps g := by
          unfold yielded
          cases hgd : (ops[g]?).bind (·.dst) with
          | none => rfl
          | some t =>
            have ht : t ∈ o.looksAt ops := List.mem_append_right _ (by simp [hg, hgd])
            simp only [Option.bind_some, hal t ht]
        simp only [this]
    -- one operation's value lands
    have land : ∀ (u : Value) (w' : World), FPost a0 S R ⟨ix.getD i [], p i⟩ i o.dst vs w ((fill vs 0 (ops.toList.take i) a0).put o.dst u) w' →
        wpAny P .any ops Q fuel (listed.setIfInBounds i true) (a.put o.dst u) w' := fun u w' ⟨_, hf, hS, hRw⟩ => by
      refine ih _ (U.erase i) (fun j => if j = i then got ((fill vs 0 (ops.toList.take i) a0).put o.dst u) o.dst else vs j) _ _ (fun j hj hjl => ?_) ?_ ⟨?_, ?_, ?_, ?_, ?_, ?_, hS, ?_⟩
      · by_cases hij : i = j
        · subst hij
          have h0 : i < listed.size := by rw [hi.lsize]; exact hlt
          simp [h0] at hjl
        · rw [getD_set_ne true hij] at hjl
          exact (List.mem_erase_of_ne (Ne.symm hij)).2 (hU j hj hjl)
      · rw [List.length_erase_of_mem (hU i hlt hun)]; omega
      · simp [hi.lsize]
      · intro j oj hj hl' e he hb
        by_cases hij : i = j
        · subst hij
          have : oj = o := Option.some.inj (hj.symm.trans ho)
          subst this
          exact getD_set_true (hall e he hb)
        · rw [getD_set_ne false hij] at hl'
          exact getD_set_true (hi.closed j oj hj hl' e he hb)
      · rw [put_size, hi.size]
      · rw [put_defers, hi.defers]
      · intro j oj d hj hl' hd hds
        by_cases hij : i = j
        · subst hij
          have : oj = o := Option.some.inj (hj.symm.trans ho)
          subst this
          simp only [if_true, hd, got]
          rw [put_same _ _ _ (by rw [hi.size]; exact hds)]
          have h9 := put_same (fill vs 0 (ops.toList.take i) a0) d u (by rw [fill_size]; exact hds)
          simp only [Array.getD_eq_getD_getElem?, h9, Option.getD_some]
        · rw [getD_set_ne false hij] at hl'
          rw [put_other _ _ _ _ (fun hdo => hc.dist j oj hj i o ho hij d hd hdo), hi.slot j oj d hj hl' hd hds]
          simp [Ne.symm hij]
      · intro t ht
        have h1 : o.dst ≠ some t := ht i o ho (by
          have h0 : i < listed.size := by rw [hi.lsize]; exact hlt
          simp [h0])
        rw [put_other _ _ _ _ h1]
        exact hi.other t fun j oj hj hl' => ht j oj hj (getD_set_true hl')
      · intro j oj hj hl'
        by_cases hij : i = j
        · subst hij; exact hf
        · rw [getD_set_ne false hij] at hl'
          refine Fact.at_congr _ (fun k hk => ?_) (hR j vs w w' hRw (hi.facts j oj hj hl'))
          have hki : k ≠ i := fun hki => by
            subst hki
            rcases hc.ixs j oj hj k hk with h1 | ⟨e, he, hb, rfl⟩
            · exact hij h1
            · have := hi.closed j oj hj hl' e he hb
              rw [getD_both hun] at this
              cases this
          simp [hki]
    unfold wpOp
    simp only [ho]
    simp only [wpList] at hstep
    rw [hwa]
    split
    · rename_i hw
      simp only [hw, if_true] at hstep
      rcases hstep with hstep | ⟨_, _, _, hf⟩
      case inr => exact hf.elim
      refine .inl ?_
      unfold Oper.wp at *
      rw [hex]
      generalize (execOp (fill vs 0 (ops.toList.take i) a0).eval o).run P w = r at *
      cases r with
      | ok n w' =>
        cases n <;> simp only [Oper.upon] at hstep ⊢
        case value u => exact land u w' hstep
        case skip => exact land _ w' hstep
        case defer d =>
          have := hstep.1
          rw [put_defers, fill_defers] at this
          exact absurd (congrArg List.length this) (by simp)
        case enter f args =>
          refine Calls.mono hstep fun e w'' he => ?_
          cases e with
          | returned u => exact land u w'' he
          | panicked c => exact he.elim
          | outgrown => obtain ⟨_, _, hf⟩ := he; exact hf.elim
        case row row args => exact Rows.mono hstep fun u w'' he => land u w'' he
      | halt x w' =>
        cases x <;> simp only [Oper.upon] at hstep ⊢
    · rename_i hw
      simp only [hw, Bool.false_eq_true, if_false] at hstep
      exact land _ w hstep
/-- A region that draws its order, by facts. -/
theorem wp_region_facts {id : Nat} {a : Act} {w : World} (ix : List (List Nat)) (S : World → Prop) (R : World → World → Prop) (p : Nat → (Nat → Value) → World → Prop)
    (hm : P.follows .mixedOrders = true) (hc : chk ops ix = true) (hS : S w.drew)
    (hR : ∀ j vs w w', R w w' → (Fact.mk (ix.getD j []) (p j)).at vs w → (Fact.mk (ix.getD j []) (p j)).at vs w')
    (hs : FSteps P ops a S R (fun i => ⟨ix.getD i [], p i⟩) 0 ops.toList)
    (hQ : ∀ vs w', (∀ j, j < ops.size → (Fact.mk (ix.getD j []) (p j)).at vs w') → S w' → Q .normal (fill vs 0 ops.toList a) w') : (Code.region id ops true).wp P Q a w := by
  refine wp_region_any hm (facts_go (chk_spec hc) hR hs hQ ops.size _ (List.range ops.size) (fun _ => undef) a _ (fun i hi _ => List.mem_range.2 hi) (by simp) ⟨by simp, ?_, rfl, rfl, ?_, fun _ _ => rfl, hS, ?_⟩)
  · intro j oj _ hl; rw [getD_replicate_false] at hl; cases hl
  · intro j o d _ hl; rw [getD_replicate_false] at hl; cases hl
  · intro j o _ hl; rw [getD_replicate_false] at hl; cases hl
end
end Go.Cour
/- A region that draws its order, walked once in the order of its text: what reads yields the same wherever a fact T holds of the world; what acts stands in a chain, and keeps T. -/
namespace Go.Cour
/-- Operations that read and no more. -/
def readK : Op → Bool
  | .move _ | .assign _ | .pick _ _ _ | .build _ _ | .load _ _ | .nilCheck _ | .binOp _ _ _ _ _ | .unOp _ _ _ | .makeInterface _ _ | .makeFunc _ _ _ | .fieldAddr _ _ _ | .field _ _ _ | .indexAddr _ _ _ | .index _ _ _ | .extract _ _ | .slice _ _ _ _ _ => true
  | .call c => match c.callee with
    | .builtin .len | .builtin .cap | .builtin .min | .builtin .max => true
    | _ => false
  | .convert _ d _ => d != 24
  | .typeAssert _ _ _ _ => true
  | _ => false
theorem andThen_value {α : Type} {r : Result α} {f : α → Value} {n : Next} {w' : World} (h : r.andThen (fun x w => .ok (Next.value (f x)) w) = .ok n w') : ∃ u, n = .value u := by
  cases r with
  | ok x w => simp only [Result.andThen_ok] at h; injection h with h _; exact ⟨_, h.symm⟩
  | halt x w => simp [Result.andThen] at h
theorem andThen_any {α : Type} {r : Result α} {f : α → World → Result Next} {n : Next} {w' : World} (hf : ∀ x w n w', f x w = .ok n w' → ∃ u, n = .value u) (h : r.andThen f = .ok n w') : ∃ u, n = .value u := by
  cases r with
  | ok x w => exact hf x w n w' h
  | halt x w => simp [Result.andThen] at h
theorem readK_value {P : Program} {o : Oper} {ρ : Operand → Value} {w w' : World} {n : Next} (hk : readK o.op = true) (h : (execOp ρ o).run P w = .ok n w') : ∃ u, n = .value u := by
  unfold execOp at h
  cases hop : o.op <;> simp only [hop, readK, Bool.false_eq_true] at hk h
  case move x => simp at h; exact ⟨_, h.1.symm⟩
  case assign x => simp at h; exact ⟨_, h.1.symm⟩
  case nilCheck x =>
    split at h
    · simp [runtimePanic] at h
    · simp [runtimePanic] at h
    · simp [runtimePanic] at h
    · split at h
      · simp [runtimePanic] at h
      · simp only [Sem.run_bind] at h
        refine andThen_any (fun x w n w' h => ?_) h
        refine andThen_any (fun x w n w' h => ?_) h
        split at h
        · simp [Go.unsupported] at h
        · simp at h; exact ⟨_, h.1.symm⟩
      · simp at h; exact ⟨_, h.1.symm⟩
    · simp at h; exact ⟨_, h.1.symm⟩
  case call c =>
    cases hc : c.callee with
    | value f => simp [hc] at hk
    | invoke r m => simp [hc] at hk
    | builtin b =>
      simp only [hc] at hk
      simp only [resolve, hc, invoke, Sem.run_bind, Sem.run_pure, Result.andThen_ok] at h
      cases b <;> simp at hk <;> simp only [builtin, Sem.run_bind, Sem.run_pure] at h <;> exact andThen_value h
  all_goals (simp only [Sem.run_bind, Sem.run_pure] at h; exact andThen_value h)
theorem put_put_iff (a : Act) {d e : Option Tmp} (x u v : Value) (h : ∀ t, d = some t → e ≠ some t) : (a.put d x).put e u = (a.put d x).put e v ↔ a.put e u = a.put e v := by
  cases e with
  | none => simp [Act.put]
  | some t =>
    cases d with
    | none => simp [Act.put]
    | some s =>
      have hne : s ≠ t := fun he => h s rfl (he ▸ rfl)
      constructor
      · intro h1
        by_cases ht : t < a.tmps.size
        · have h2 := congrArg (fun b : Act => b.tmps[t]?) h1
          have h3 : t < (a.put (some s) x).tmps.size := by rw [put_size]; exact ht
          simp only [put_same _ _ _ h3, Option.some.injEq] at h2
          rw [h2]
        · simp [Act.put, Array.setIfInBounds, ht]
      · intro h1
        rw [Act.put_comm a x u h, Act.put_comm a x v h, h1]
section
variable (P : Program) (ops : Array Oper) (N : Act → World → Prop)
/-- An operation that reads: what the act is behind it; the world is as it was. -/
def Rd1 (o : Oper) (a : Act) (w : World) (v : Value) : Prop :=
  if Region.wanted o (yielded ops a.tmps) then ∃ u, (execOp a.eval o).run P w = .ok (.value u) w ∧ a.put o.dst u = a.put o.dst v
  else a.put o.dst undef = a.put o.dst v
/-- An operation that acts: what holds of its value, and of the world behind it. -/
def V1 (o : Oper) (a : Act) (w : World) (K : Value → World → Prop) : Prop :=
  if Region.wanted o (yielded ops a.tmps) then
    match (execOp a.eval o).run P w with
    | .ok (.value v) w' => K v w'
    | .ok .skip w' => K undef w'
    | .ok (.enter f args) w' => Calls P f args w' fun e w'' => ∃ v, e = .returned v ∧ K v w''
    | .ok (.row row args) w' => Rows P row args w' K
    | _ => False
  else K undef w
theorem waitsT_more {ops : Array Oper} : ∀ (n k i : Nat), waitsT ops n k i = true → waitsT ops (n + 1) k i = true
  | 0, k, i, h => by
    unfold waitsT at h ⊢
    rw [h]; rfl
  | n + 1, k, i, h => by
    unfold waitsT at h ⊢
    rw [Bool.or_eq_true] at h ⊢
    refine h.imp (fun h => h) fun h => ?_
    cases ho : ops[k]? with
    | none => simp [ho] at h
    | some o =>
      simp only [ho] at h ⊢
      obtain ⟨e, he, hb⟩ := Array.any_eq_true'.1 h
      refine Array.any_eq_true'.2 ⟨e, he, ?_⟩
      simp only [Bool.and_eq_true] at hb ⊢
      exact ⟨hb.1, waitsT_more n e.on i hb.2⟩
theorem waitsT_le {ops : Array Oper} {k i : Nat} (n : Nat) : ∀ m, waitsT ops n k i = true → waitsT ops (n + m) k i = true
  | 0, h => h
  | m + 1, h => waitsT_more (n + m) k i (waitsT_le n m h)
/-- Whom operation n waits for, as a number's bits; l: those ahead, the last one first. -/
def maskOf (ops : Array Oper) (n : Nat) (l : List Nat) : Nat := match ops[n]? with
  | none => 0
  | some o => o.after.toList.foldl (fun m e => if Region.binds .any e then m ||| (2 ^ e.on) ||| (if e.on < n then l.getD (n - 1 - e.on) 0 else 0) else m) 0
def reachR (ops : Array Oper) : Nat → List Nat
  | 0 => []
  | n + 1 => maskOf ops n (reachR ops n) :: reachR ops n
theorem mask_bit {n p : Nat} {l : List Nat} : ∀ {es : List Edge} {m : Nat}, (es.foldl (fun m e => if Region.binds .any e then m ||| (2 ^ e.on) ||| (if e.on < n then l.getD (n - 1 - e.on) 0 else 0) else m) m).testBit p = true →
    m.testBit p = true ∨ ∃ e ∈ es, Region.binds .any e = true ∧ (e.on = p ∨ (e.on < n ∧ (l.getD (n - 1 - e.on) 0).testBit p = true))
  | [], m, h => .inl h
  | e :: es, m, h => by
    rw [List.foldl_cons] at h
    rcases mask_bit h with h1 | ⟨e', he', h1⟩
    · by_cases hb : Region.binds .any e = true
      · rw [if_pos hb, Nat.testBit_or, Nat.testBit_or, Bool.or_eq_true, Bool.or_eq_true] at h1
        rcases h1 with (h1 | h1) | h1
        · exact .inl h1
        · rw [Nat.testBit_two_pow] at h1
          exact .inr ⟨e, List.mem_cons_self .., hb, .inl (by simpa using h1)⟩
        · by_cases hlt : e.on < n
          · rw [if_pos hlt] at h1
            exact .inr ⟨e, List.mem_cons_self .., hb, .inr ⟨hlt, h1⟩⟩
          · rw [if_neg hlt] at h1; simp at h1
      · rw [if_neg hb] at h1; exact .inl h1
    · exact .inr ⟨e', List.mem_cons_of_mem _ he', h1⟩
theorem reach_spec (ops : Array Oper) : ∀ (n i : Nat), i < n → ∀ p, ((reachR ops n).getD (n - 1 - i) 0).testBit p = true → waitsT ops (i + 1) i p = true
  | 0, i, h, _, _ => absurd h (Nat.not_lt_zero _)
  | n + 1, i, h, p, hb => by
    by_cases hin : i = n
    · subst hin
      have h0 : i + 1 - 1 - i = 0 := by omega
      rw [h0] at hb
      have hb' : (maskOf ops i (reachR ops i)).testBit p = true := hb
      unfold maskOf at hb'
      cases ho : ops[i]? with
      | none => simp [ho] at hb'
      | some o =>
        simp only [ho] at hb'
        rcases mask_bit hb' with h1 | ⟨e, he, hbi, h1⟩
        · simp at h1
        · unfold waitsT
          rw [Bool.or_eq_true]
          refine .inr ?_
          simp only [ho]
          refine Array.any_eq_true'.2 ⟨e, by simpa using he, ?_⟩
          simp only [Bool.and_eq_true]
          refine ⟨hbi, ?_⟩
          rcases h1 with h1 | ⟨h1, h2⟩
          · rw [h1]
            cases i <;> unfold waitsT <;> simp
          · have h3 := reach_spec ops i e.on h1 p h2
            have h4 := waitsT_le (e.on + 1) (i - (e.on + 1)) h3
            rwa [show e.on + 1 + (i - (e.on + 1)) = i by omega] at h4
    · have h1 : n + 1 - 1 - i = (n - 1 - i) + 1 := by omega
      rw [h1] at hb
      exact reach_spec ops n i (by omega) p hb
/-- Operation i waits for operation p. -/
def dirW (ops : Array Oper) (i p : Nat) : Bool := decide (i < ops.size) && decide (i < 199) && ((reachR ops ops.size).getD (ops.size - 1 - i) 0).testBit p
theorem dirW_waits {ops : Array Oper} {i p : Nat} (h : dirW ops i p = true) : waitsT ops 200 i p = true := by
  unfold dirW at h
  simp only [Bool.and_eq_true, decide_eq_true_eq] at h
  have h1 := reach_spec ops ops.size i h.1.1 p h.2
  have h2 := waitsT_le (i + 1) (200 - (i + 1)) h1
  rwa [show i + 1 + (200 - (i + 1)) = 200 by omega] at h2
/-- An operation that acts, and stands in one order with all others. -/
def totB (ops : Array Oper) (i : Nat) : Bool := (List.range ops.size).all fun j => (decide (i ≤ j) || dirW ops i j) && (decide (j ≤ i) || dirW ops j i)
/-- The operations walked in the order of the text. -/
def wpT : (World → Prop) → List Nat → Act → World → Prop
  | _, [], a, w => N a w
  | T, i :: rest, a, w => match ops[i]? with
    | none => False
    | some o =>
      if readK o.op then ∃ v, (∀ w', T w' → Rd1 P ops o a w' v) ∧ wpT T rest (a.put o.dst v) w
      else V1 P ops o a w fun u w' => if totB ops i then ∃ T', T' w' ∧ wpT T' rest (a.put o.dst u) w' else T w' ∧ wpT T rest (a.put o.dst u) w'
end
section
variable {P : Program} {ops : Array Oper} {T : World → Prop} {N : Act → World → Prop}
theorem Rd1.put {o : Oper} {a : Act} {w : World} {v : Value} {d : Option Tmp} (x : Value) (h1 : ∀ t, d = some t → t ∉ o.looksAt ops) (h2 : ∀ t, d = some t → o.dst ≠ some t) (hs : ∀ cs b, o.op ≠ .select cs b) : Rd1 P ops o (a.put d x) w v ↔ Rd1 P ops o a w v := by
  unfold Rd1
  rw [wanted_put o a d x h1, execOp_put o hs a d x h1]
  simp only [put_put_iff a x _ _ h2]
theorem V1.put {o : Oper} {a : Act} {w : World} {K : Value → World → Prop} {d : Option Tmp} (x : Value) (h1 : ∀ t, d = some t → t ∉ o.looksAt ops) (hs : ∀ cs b, o.op ≠ .select cs b) : V1 P ops o (a.put d x) w K ↔ V1 P ops o a w K := by
  unfold V1
  rw [wanted_put o a d x h1, execOp_put o hs a d x h1]
theorem V1.mono {o : Oper} {a : Act} {w : World} {K K' : Value → World → Prop} (h : V1 P ops o a w K) (hk : ∀ u w', K u w' → K' u w') : V1 P ops o a w K' := by
  unfold V1 at *
  split at h <;> rename_i hw
  · rw [if_pos hw]
    revert h
    cases (execOp a.eval o).run P w with
    | halt x w' => exact fun h => h
    | ok n w' =>
      cases n <;> intro h <;> first | exact hk _ _ h | exact h | skip
      case enter f args => exact Calls.mono h fun e w'' ⟨v, he, hv⟩ => ⟨v, he, hk _ _ hv⟩
      case row row args => exact Rows.mono h fun u w'' hu => hk _ _ hu
  · rw [if_neg hw]; exact hk _ _ h
theorem V1.ex {o : Oper} {a : Act} {w : World} {K : Value → World → Prop} (h : V1 P ops o a w K) : ∃ u w', K u w' := by
  unfold V1 at h
  split at h
  · revert h
    cases (execOp a.eval o).run P w with
    | halt x w' => exact fun h => h.elim
    | ok n w' =>
      cases n <;> intro h <;> first | exact ⟨_, _, h⟩ | exact h.elim | skip
      case enter f args => obtain ⟨e, w'', fr, ⟨v, _, hv⟩, _⟩ := h []; exact ⟨v, w'', hv⟩
      case row row args => obtain ⟨v, w'', hv, _⟩ := h default []; exact ⟨v, w'', hv⟩
  · exact ⟨_, _, h⟩
theorem Rd1.det {o : Oper} {a : Act} {w : World} {u v : Value} (h : Rd1 P ops o a w u) (k : Rd1 P ops o a w v) : a.put o.dst u = a.put o.dst v := by
  unfold Rd1 at *
  split at h <;> rename_i hw
  · rw [if_pos hw] at k
    obtain ⟨x, h1, h2⟩ := h
    obtain ⟨y, h3, h4⟩ := k
    rw [h1] at h3
    injection h3 with h3
    injection h3 with h3
    subst h3
    exact h2.symm.trans h4
  · rw [if_neg hw] at k; exact h.symm.trans k
def noSel (o : Oper) : Prop := ∀ cs b, o.op ≠ .select cs b
/-- What may go ahead goes ahead. -/
theorem wpT_pull (i : Nat) (o : Oper) (post : List Nat) (hi : ops[i]? = some o) (hso : noSel o) : ∀ (pre : List Nat) (a : Act) (w : World), T w → (pre ≠ [] → totB ops i = false) → (∀ j ∈ pre, totB ops j = false ∧ ∃ p, ops[j]? = some p ∧ p.apart ops o = true ∧ (readK p.op || readK o.op) = true ∧ noSel p) → wpT P ops N T (pre ++ i :: post) a w →
    if readK o.op then ∃ v, (∀ w', T w' → Rd1 P ops o a w' v) ∧ wpT P ops N T (pre ++ post) (a.put o.dst v) w
    else V1 P ops o a w fun u w' => if totB ops i then ∃ T', T' w' ∧ wpT P ops N T' (pre ++ post) (a.put o.dst u) w' else T w' ∧ wpT P ops N T (pre ++ post) (a.put o.dst u) w'
  | [], a, w, _, _, _, h => by simpa only [List.nil_append, wpT, hi] using h
  | j :: pre, a, w, hT, hti, hp, h => by
    obtain ⟨htj, p, hj, hap, hrd, hsp⟩ := hp j (List.mem_cons_self ..)
    have hti' := hti (by simp)
    obtain ⟨s1, s2, s3⟩ := Oper.apart_spec hap
    have s4 : ∀ t, o.dst = some t → p.dst ≠ some t := fun t ht hpt => s2 t hpt ht
    have ih := fun a w hT => wpT_pull i o post hi hso pre a w hT (fun _ => hti') (fun q hq => hp q (List.mem_cons_of_mem _ hq))
    simp only [List.cons_append, wpT, hj, htj, hti', Bool.false_eq_true, if_false] at h ih ⊢
    by_cases hkp : readK p.op = true
    · rw [if_pos hkp] at h
      obtain ⟨vp, hvp, h⟩ := h
      have h2 := ih _ _ hT h
      by_cases hko : readK o.op = true
      · rw [if_pos hko] at h2 ⊢
        obtain ⟨v, hv, h3⟩ := h2
        refine ⟨v, fun w' hw' => (Rd1.put vp s1 s2 hso).1 (hv w' hw'), ?_⟩
        rw [if_pos hkp]
        refine ⟨vp, fun w' hw' => (Rd1.put v s3 s4 hsp).2 (hvp w' hw'), ?_⟩
        rw [← Act.put_comm a vp v s2]; exact h3
      · rw [if_neg hko] at h2 ⊢
        refine ((V1.put vp s1 hso).1 h2).mono fun u w' ⟨h3, h4⟩ => ⟨h3, ?_⟩
        rw [if_pos hkp]
        refine ⟨vp, fun w'' hw'' => (Rd1.put u s3 s4 hsp).2 (hvp w'' hw''), ?_⟩
        rw [← Act.put_comm a vp u s2]; exact h4
    · have hko : readK o.op = true := by
        rw [Bool.or_eq_true] at hrd
        exact hrd.resolve_left hkp
      rw [if_neg hkp] at h
      rw [if_pos hko]
      have h2 : V1 P ops p a w fun u w' => T w' ∧ ∃ v, (∀ w'', T w'' → Rd1 P ops o a w'' v) ∧ wpT P ops N T (pre ++ post) ((a.put p.dst u).put o.dst v) w' := h.mono fun u w' ⟨h3, h4⟩ => by
        have h5 := ih _ _ h3 h4
        rw [if_pos hko] at h5
        obtain ⟨v, hv, h6⟩ := h5
        exact ⟨h3, v, fun w'' hw'' => (Rd1.put u s1 s2 hso).1 (hv w'' hw''), h6⟩
      obtain ⟨u0, w0, hT0, v0, hv0, _⟩ := h2.ex
      refine ⟨v0, hv0, ?_⟩
      rw [if_neg hkp]
      refine (V1.put v0 s3 hsp).2 (h2.mono fun u w' ⟨h3, v, hv, h4⟩ => ⟨h3, ?_⟩)
      rw [Act.put_comm a u v s2, (hv w0 hT0).det (hv0 w0 hT0)] at h4
      exact h4
/-- What the law asks of the region's text. -/
def chkTOne (ops : Array Oper) (i : Nat) : Bool :=
  match ops[i]? with
  | none => true
  | some o => (o.after.all fun e => !Region.binds .any e || decide (e.on < i)) && !isSelect o.op &&
    (List.range i).all fun p => dirW ops i p || (match ops[p]? with | some q => q.apart ops o && (readK q.op || readK o.op) | none => true)
def chkT (ops : Array Oper) : Bool := (List.range ops.size).all (chkTOne ops)
structure ChkT (ops : Array Oper) : Prop where
  back : ∀ (i : Nat) (o : Oper), ops[i]? = some o → ∀ e ∈ o.after, Region.binds .any e = true → e.on < i
  sel : ∀ (i : Nat) (o : Oper), ops[i]? = some o → noSel o
  ahead : ∀ (i : Nat) (o : Oper), ops[i]? = some o → ∀ p q, p < i → ops[p]? = some q → waitsT ops 200 i p = true ∨ (q.apart ops o = true ∧ (readK q.op || readK o.op) = true)
theorem chkT_spec (h : chkT ops = true) : ChkT ops := by
  have h1 : ∀ i o, ops[i]? = some o → ((o.after.all fun e => !Region.binds .any e || decide (e.on < i)) = true ∧ isSelect o.op = false) ∧
    ((List.range i).all fun p => dirW ops i p || (match ops[p]? with | some q => q.apart ops o && (readK q.op || readK o.op) | none => true)) = true := fun i o ho => by
    have := List.all_eq_true.1 h i (List.mem_range.2 (Array.getElem?_eq_some_iff.1 ho).1)
    unfold chkTOne at this
    simp only [ho, Bool.and_eq_true, Bool.not_eq_true'] at this
    exact this
  refine ⟨fun i o ho e he hb => ?_, fun i o ho cs b hs => ?_, fun i o ho p q hp hq => ?_⟩
  · have := Array.all_eq_true'.1 (h1 i o ho).1.1 e he
    simpa [hb] using this
  · have := (h1 i o ho).1.2
    rw [hs] at this
    simp [isSelect] at this
  · have := List.all_eq_true.1 (h1 i o ho).2 p (List.mem_range.2 hp)
    simp only [hq, Bool.or_eq_true, Bool.and_eq_true] at this
    rcases this with h2 | ⟨h2, h3⟩
    · exact .inl (dirW_waits h2)
    · exact .inr ⟨h2, by simpa using h3⟩
/-- Whoever stands listed has all that it waits for listed. -/
def Closed (ops : Array Oper) (listed : Array Bool) : Prop := ∀ (j : Nat) (oj : Oper), ops[j]? = some oj → listed.getD j false = true → ∀ e ∈ oj.after, Region.binds .any e = true → listed.getD e.on false = true
theorem Closed.waits {listed : Array Bool} (hc : Closed ops listed) (hl : listed.size = ops.size) : ∀ (n k p : Nat), waitsT ops n k p = true → k < ops.size → listed.getD k false = true → listed.getD p false = true
  | 0, k, p, hw, _, hk => by
    have : k = p := by simpa [waitsT] using hw
    rw [← this]; exact hk
  | n + 1, k, p, hw, hlt, hk => by
    unfold waitsT at hw
    rw [Bool.or_eq_true] at hw
    rcases hw with hw | hw
    · have : k = p := by simpa using hw
      rw [← this]; exact hk
    · cases ho : ops[k]? with
      | none => simp [ho] at hw
      | some o =>
        simp only [ho] at hw
        obtain ⟨e, he, hb⟩ := Array.any_eq_true'.1 hw
        simp only [Bool.and_eq_true] at hb
        have h2 := hc k o ho hk e he hb.1
        have h3 : e.on < ops.size := by
          rcases Nat.lt_or_ge e.on ops.size with h | h
          · exact h
          · have : listed.getD e.on false = false := by simp [Array.getD, show ¬ e.on < listed.size by omega]
            rw [this] at h2; cases h2
        exact hc.waits hl n e.on p hb.2 h3 h2
def unl (listed : Array Bool) (j : Nat) : Bool := !(listed.getD j true)
def rem (ops : Array Oper) (listed : Array Bool) : List Nat := (List.range ops.size).filter (unl listed)
theorem filter_ne_mid {s t : List Nat} {i : Nat} (h : (s ++ i :: t).Pairwise (· < ·)) : (s ++ i :: t).filter (fun j => j != i) = s ++ t := by
  rw [List.filter_append, List.filter_cons]
  have h1 : ∀ j ∈ s, j < i := fun j hj => (List.pairwise_append.1 h).2.2 j hj i (List.mem_cons_self ..)
  have h2 : ∀ j ∈ t, i < j := (List.pairwise_cons.1 (List.pairwise_append.1 h).2.1).1
  simp only [bne_self_eq_false, Bool.false_eq_true, if_false]
  rw [List.filter_eq_self.2 (fun j hj => by simp; have := h1 j hj; omega), List.filter_eq_self.2 (fun j hj => by simp; have := h2 j hj; omega)]
theorem totB_spec {i : Nat} (h : totB ops i = true) : ∀ j, j < ops.size → (j < i → waitsT ops 200 i j = true) ∧ (i < j → waitsT ops 200 j i = true) := fun j hj => by
  have := List.all_eq_true.1 h j (List.mem_range.2 hj)
  simp only [Bool.and_eq_true, Bool.or_eq_true, decide_eq_true_eq] at this
  exact ⟨fun h1 => dirW_waits (this.1.resolve_left (by omega)), fun h1 => dirW_waits (this.2.resolve_left (by omega))⟩
theorem wpAny_T {Q : Exit → Act → World → Prop} (hN : ∀ a w, N a w → Q .normal a w) (hc : ChkT ops) : ∀ (fuel : Nat) (listed : Array Bool) (T : World → Prop) (a : Act) (w : World), T w → listed.size = ops.size → Closed ops listed → (rem ops listed).length ≤ fuel →
    wpT P ops N T (rem ops listed) a w → wpAny P .any ops Q fuel listed a w := by
  have fin : ∀ (listed : Array Bool) (T : World → Prop) (a : Act) (w : World), listed.size = ops.size → Region.ready .any ops listed = [] → wpT P ops N T (rem ops listed) a w → Q .normal a w := fun listed T a w hl hr h => by
    have hall : ∀ n j, j < n → j < ops.size → listed.getD j false = true := fun n => by
      induction n with
      | zero => intro j hj; omega
      | succ n ih =>
        intro j hj hlt
        by_cases hjn : j < n
        · exact ih j hjn hlt
        · have hjn' : j = n := by omega
          subst hjn'
          cases hlj : listed.getD j false with
          | true => rfl
          | false =>
            have hun := getD_in (by rw [hl]; exact hlt) hlj
            have ho : ops[j]? = some ops[j] := Array.getElem?_eq_getElem hlt
            have : j ∈ Region.ready .any ops listed := mem_ready.2 ⟨hun, ops[j], ho, fun e he hb => ih e.on (hc.back j _ ho e he hb) (by have := hc.back j _ ho e he hb; omega)⟩
            rw [hr] at this
            cases this
    have hre : rem ops listed = [] := List.filter_eq_nil_iff.2 fun j hj => by
      have := hall (j + 1) j (by omega) (List.mem_range.1 hj)
      unfold unl
      cases h2 : listed.getD j true with
      | true => simp
      | false => rw [getD_both h2] at this; cases this
    rw [hre] at h
    exact hN _ _ h
  intro fuel
  induction fuel with
  | zero =>
    intro listed T a w hT hl hcl hf h
    have hr : Region.ready .any ops listed = [] := by
      rcases hx : Region.ready .any ops listed with _ | ⟨i, l⟩
      · rfl
      · have hm : i ∈ Region.ready .any ops listed := by rw [hx]; exact List.mem_cons_self ..
        obtain ⟨hun, o, ho, _⟩ := mem_ready.1 hm
        have h1 : i ∈ rem ops listed := List.mem_filter.2 ⟨List.mem_range.2 (Array.getElem?_eq_some_iff.1 ho).1, by simp [unl, hun]⟩
        have h2 := List.length_eq_zero_iff.1 (Nat.le_zero.1 hf)
        rw [h2] at h1
        cases h1
    exact ⟨hr, fin listed T a w hl hr h⟩
  | succ fuel ih =>
    intro listed T a w hT hl hcl hf h
    refine ⟨fun hr => fin listed T a w hl hr h, fun i hir => ?_⟩
    obtain ⟨hun, o, ho, hall⟩ := mem_ready.1 hir
    have hlt := (Array.getElem?_eq_some_iff.1 ho).1
    have him : i ∈ rem ops listed := List.mem_filter.2 ⟨List.mem_range.2 hlt, by simp [unl, hun]⟩
    obtain ⟨s, t, hst⟩ := List.append_of_mem him
    have hpw : (s ++ i :: t).Pairwise (· < ·) := by
      rw [← hst]; exact List.Pairwise.filter _ List.pairwise_lt_range
    have hrem : rem ops (listed.setIfInBounds i true) = s ++ t := by
      rw [← filter_ne_mid hpw, ← hst]
      unfold rem
      rw [List.filter_filter]
      refine List.filter_congr fun j hj => ?_
      unfold unl
      by_cases hij : i = j
      · subst hij
        have h0 : i < listed.size := by rw [hl]; exact hlt
        simp [h0]
      · rw [getD_set_ne true hij]
        simp [Ne.symm hij]
    have hlate : ∀ k ∈ s, waitsT ops 200 i k = true → False := fun k hk hw => by
      have hki : k < i := (List.pairwise_append.1 hpw).2.2 k hk i (List.mem_cons_self ..)
      have hku : k ∈ rem ops listed := by rw [hst]; exact List.mem_append_left _ hk
      have hkun : listed.getD k true = false := by
        have := (List.mem_filter.1 hku).2
        simpa [unl] using this
      have : waitsT ops 200 i k = true := hw
      unfold waitsT at this
      rw [Bool.or_eq_true] at this
      rcases this with h3 | h3
      · have : i = k := by simpa using h3
        omega
      · simp only [ho] at h3
        obtain ⟨e, he, hb⟩ := Array.any_eq_true'.1 h3
        simp only [Bool.and_eq_true] at hb
        have h4 := hcl.waits hl 199 e.on k hb.2 (by have := hc.back i o ho e he hb.1; omega) (hall e he hb.1)
        rw [getD_both hkun] at h4
        cases h4
    have hpre : ∀ j ∈ s, totB ops j = false ∧ ∃ p, ops[j]? = some p ∧ p.apart ops o = true ∧ (readK p.op || readK o.op) = true ∧ noSel p := fun k hk => by
      have hki : k < i := (List.pairwise_append.1 hpw).2.2 k hk i (List.mem_cons_self ..)
      have hks : k < ops.size := by omega
      have hkp : ops[k]? = some ops[k] := Array.getElem?_eq_getElem hks
      refine ⟨?_, ops[k], hkp, ?_⟩
      · cases htk : totB ops k with
        | false => rfl
        | true => exact (hlate k hk ((totB_spec htk i hlt).2 hki)).elim
      · rcases hc.ahead i o ho k _ hki hkp with hw | ⟨h1, h2⟩
        · exact (hlate k hk hw).elim
        · exact ⟨h1, h2, hc.sel k _ hkp⟩
    have hti : s ≠ [] → totB ops i = false := fun hs => by
      cases hti : totB ops i with
      | false => rfl
      | true =>
        obtain ⟨k, hk⟩ := List.exists_mem_of_ne_nil s hs
        have hki : k < i := (List.pairwise_append.1 hpw).2.2 k hk i (List.mem_cons_self ..)
        exact (hlate k hk ((totB_spec hti k (by omega)).1 hki)).elim
    rw [hst] at h
    have hpull := wpT_pull i o t ho (hc.sel i o ho) s a w hT hti hpre h
    rw [← hrem] at hpull
    have hcl' : Closed ops (listed.setIfInBounds i true) := fun j oj hj hl' e he hb => by
      by_cases hij : i = j
      · subst hij
        have : oj = o := Option.some.inj (hj.symm.trans ho)
        subst this
        exact getD_set_true (hall e he hb)
      · rw [getD_set_ne false hij] at hl'
        exact getD_set_true (hcl j oj hj hl' e he hb)
    have hlen : (rem ops (listed.setIfInBounds i true)).length ≤ fuel := by
      rw [hrem]; rw [hst] at hf; simp at hf ⊢; omega
    have next : ∀ (T : World → Prop) u w', T w' → wpT P ops N T (rem ops (listed.setIfInBounds i true)) (a.put o.dst u) w' → wpAny P .any ops Q fuel (listed.setIfInBounds i true) (a.put o.dst u) w' := fun T u w' hT' h' =>
      ih _ _ _ _ hT' (by simp [hl]) hcl' hlen h'
    have nextA : ∀ u w', (if totB ops i then ∃ T', T' w' ∧ wpT P ops N T' (rem ops (listed.setIfInBounds i true)) (a.put o.dst u) w' else T w' ∧ wpT P ops N T (rem ops (listed.setIfInBounds i true)) (a.put o.dst u) w') → wpAny P .any ops Q fuel (listed.setIfInBounds i true) (a.put o.dst u) w' := fun u w' h' => by
      split at h'
      · obtain ⟨T', h1, h2⟩ := h'; exact next T' u w' h1 h2
      · exact next T u w' h'.1 h'.2
    unfold wpOp
    simp only [ho]
    by_cases hko : readK o.op = true
    · rw [if_pos hko] at hpull
      obtain ⟨v, hv, h2⟩ := hpull
      have h3 := hv w hT
      unfold Rd1 at h3
      split at h3 <;> rename_i hw
      · rw [if_pos hw]
        obtain ⟨u, h4, h5⟩ := h3
        refine .inl ?_
        unfold Oper.wp
        rw [h4]
        rw [← h5] at h2
        exact next T u w hT h2
      · rw [if_neg hw]
        rw [← h3] at h2
        exact next T _ w hT h2
    · rw [if_neg hko] at hpull
      unfold V1 at hpull
      split at hpull <;> rename_i hw
      · rw [if_pos hw]
        refine .inl ?_
        unfold Oper.wp
        revert hpull
        cases (execOp a.eval o).run P w with
        | halt x w' => exact fun h => h.elim
        | ok n w' =>
          cases n <;> intro h <;> first | exact h.elim | exact nextA _ _ h | skip
          case enter f args =>
            refine Calls.mono h fun e w'' he => ?_
            obtain ⟨v, rfl, h1⟩ := he
            exact nextA v w'' h1
          case row row args => exact Rows.mono h fun u w'' hu => nextA u w'' hu
      · rw [if_neg hw]
        exact nextA _ w hpull
/-- A region that draws its order, in the order of its text. -/
theorem wp_region_T {id : Nat} {a : Act} {w : World} {Q : Exit → Act → World → Prop} (T : World → Prop) (hm : P.follows .mixedOrders = true) (hc : chkT ops = true) (hT : T w.drew) (h : wpT P ops (fun a' w' => Q .normal a' w') T (List.range ops.size) a w.drew) : (Code.region id ops true).wp P Q a w := by
  refine wp_region_any hm (wpAny_T (N := fun a' w' => Q .normal a' w') (fun _ _ h => h) (chkT_spec hc) ops.size _ T a _ hT (by simp) ?_ ?_ ?_)
  · intro j oj _ hl; rw [getD_replicate_false] at hl; cases hl
  · exact Nat.le_trans (List.length_filter_le _ _) (by simp)
  · have h1 : rem ops (Array.replicate ops.size false) = List.range ops.size := List.filter_eq_self.2 fun j hj => by
      simp [unl, Array.getD, List.mem_range.1 hj]
    rw [h1]; exact h
/-- One that reads. -/
theorem wpT_read {i : Nat} {o : Oper} {rest : List Nat} {a A : Act} {w : World} (hi : ops[i]? = some o) (hT : T w) (hk : readK o.op = true) (h1 : ∀ w', T w' → wpList P ops (fun ex a' w'' => ex = .normal ∧ a' = A ∧ w'' = w') [o] a w') (h2 : wpT P ops N T rest A w) : wpT P ops N T (i :: rest) a w := by
  have hv : ∀ w', T w' → ∃ u, A = a.put o.dst u ∧ Rd1 P ops o a w' u := fun w' hw' => by
    have h := h1 w' hw'
    simp only [wpList] at h
    unfold Rd1
    split at h <;> rename_i hw
    · rcases h with h | ⟨_, _, _, hf, _⟩
      case inr => cases hf
      unfold Oper.wp at h
      cases hx : (execOp a.eval o).run P w' with
      | halt x w1 =>
        rw [hx] at h
        cases x <;> simp [Oper.upon] at h
      | ok n w1 =>
        obtain ⟨u, rfl⟩ := readK_value hk hx
        rw [hx] at h
        simp only [Oper.upon] at h
        obtain ⟨_, h3, h4⟩ := h
        subst h4
        exact ⟨u, h3.symm, by rw [if_pos hw]; exact ⟨u, rfl, rfl⟩⟩
    · exact ⟨undef, h.2.1.symm, by rw [if_neg hw]⟩
  obtain ⟨v, hA, _⟩ := hv w hT
  simp only [wpT, hi]
  rw [if_pos hk]
  refine ⟨v, fun w' hw' => ?_, hA ▸ h2⟩
  obtain ⟨u, hu, hr⟩ := hv w' hw'
  have he : a.put o.dst u = a.put o.dst v := hu.symm.trans hA
  unfold Rd1 at *
  split at hr <;> rename_i hw
  · rw [if_pos hw]; obtain ⟨x, h3, h4⟩ := hr; exact ⟨x, h3, h4.trans he⟩
  · rw [if_neg hw]; exact hr.trans he
theorem V1_of {o : Oper} {a : Act} {w : World} {K : Act → World → Prop} (h : wpList P ops (fun ex a' w' => ex = .normal ∧ a'.defers = a.defers ∧ K a' w') [o] a w) : V1 P ops o a w fun u w' => K (a.put o.dst u) w' := by
  simp only [wpList] at h
  unfold V1
  split at h <;> rename_i hw
  · rw [if_pos hw]
    rcases h with h | ⟨_, _, _, hf, _⟩
    case inr => cases hf
    unfold Oper.wp at h
    revert h
    cases (execOp a.eval o).run P w with
    | halt x w' => intro h; cases x <;> simp [Oper.upon] at h
    | ok n w' =>
      cases n <;> intro h <;> simp only [Oper.upon] at h ⊢ <;> first | exact h.elim | exact h.2.2 | skip
      case defer d =>
        have := h.2.1
        rw [put_defers] at this
        exact absurd (congrArg List.length this) (by simp)
      case enter f args =>
        refine Calls.mono h fun e w'' he => ?_
        cases e with
        | returned u => exact ⟨u, rfl, he.2.2⟩
        | panicked c => exact absurd he.1 (by intro h; cases h)
        | outgrown => obtain ⟨_, _, hf, _⟩ := he; cases hf
      case row row args => exact Rows.mono h fun u w'' hu => hu.2.2
  · rw [if_neg hw]; exact h.2.2
theorem wpT_end {a : Act} {w : World} (h : N a w) : wpT P ops N T [] a w := h
end
end Go.Cour
/- XFacts, with what holds ahead of an operation as long as it has not run (U), and a relation for each operation (R i). -/
namespace Go.Cour
/-- What stands behind operation i. -/
structure FPostU (a0 : Act) (S : World → Prop) (R : World → World → Prop) (f : Fact) (i : Nat) (d : Option Tmp) (vs : Nat → Value) (w : World) (a' : Act) (w' : World) : Prop where
  defers : a'.defers = a0.defers
  fact : f.at (fun j => if j = i then got a' d else vs j) w'
  s : S w'
  r : R w w'
/-- Each pair (j, i) of ks: what ends fact j stands behind operation i. -/
def chkKs (ops : Array Oper) (kill : Nat → Option Nat) (ks : List (Nat × Nat)) : Bool := ks.all fun x => match kill x.1 with
  | none => true
  | some k => waitsT ops 30 k x.2
section
variable (P : Program) (ops : Array Oper) (a0 : Act) (S : World → Prop) (R : Nat → World → World → Prop) (U : Nat → World → Prop) (kill : Nat → Option Nat) (ks : List (Nat × Nat)) (F : Nat → Fact)
/-- Operation i, with what it waits for behind it, shows its fact. -/
def FStepU (i : Nat) (o : Oper) : Prop := ∀ (vs : Nat → Value) (w : World), S w → U i w → (∀ e ∈ o.after, Region.binds .any e = true → (∀ k, kill e.on = some k → k = i ∨ (e.on, i) ∈ ks) → (F e.on).at vs w) →
  wpList P ops (fun ex a' w' => match ex with
    | .normal => FPostU a0 S (R i) (F i) i o.dst vs w a' w'
    | _ => False) [o] (fill vs 0 (ops.toList.take i) a0) w
def FStepsU : Nat → List Oper → Prop
  | _, [] => True
  | k, o :: rest => FStepU P ops a0 S R U kill ks F k o ∧ FStepsU (k + 1) rest
theorem FStepsU.get : ∀ (l : List Oper) (k : Nat), FStepsU P ops a0 S R U kill ks F k l → ∀ j o, l[j]? = some o → FStepU P ops a0 S R U kill ks F (k + j) o
  | [], _, _, j, o, h => by simp at h
  | o0 :: l, k, hs, 0, o, h => by simp only [List.getElem?_cons_zero, Option.some.injEq] at h; subst h; exact hs.1
  | o0 :: l, k, hs, j + 1, o, h => by
    have := FStepsU.get l (k + 1) hs.2 j o (by simpa using h)
    rwa [show k + 1 + j = k + (j + 1) by omega] at this
end
section
variable {P : Program} {ops : Array Oper} {a0 : Act} {S : World → Prop} {R : Nat → World → World → Prop} {U : Nat → World → Prop} {kill : Nat → Option Nat} {ks : List (Nat × Nat)} {ix : List (List Nat)} {p : Nat → (Nat → Value) → World → Prop} {Q : Exit → Act → World → Prop}
structure FInvU (ops : Array Oper) (a0 : Act) (S : World → Prop) (U : Nat → World → Prop) (kill : Nat → Option Nat) (F : Nat → Fact) (listed : Array Bool) (vs : Nat → Value) (a : Act) (w : World) : Prop where
  lsize : listed.size = ops.size
  closed : ∀ (j : Nat) (oj : Oper), ops[j]? = some oj → listed.getD j false = true → ∀ e ∈ oj.after, Region.binds .any e = true → listed.getD e.on false = true
  size : a.tmps.size = a0.tmps.size
  defers : a.defers = a0.defers
  slot : ∀ (j : Nat) (o : Oper) (d : Nat), ops[j]? = some o → listed.getD j false = true → o.dst = some d → d < a0.tmps.size → a.tmps[d]? = some (vs j)
  other : ∀ (t : Nat), (∀ (j : Nat) (o : Oper), ops[j]? = some o → listed.getD j false = true → o.dst ≠ some t) → a.tmps[t]? = a0.tmps[t]?
  s : S w
  unl : ∀ (j : Nat) (o : Oper), ops[j]? = some o → listed.getD j true = false → U j w
  facts : ∀ (j : Nat) (o : Oper), ops[j]? = some o → listed.getD j false = true → (∀ k, kill j = some k → listed.getD k true = false) → (F j).at vs w
theorem FInvU.filled {F : Nat → Fact} {listed : Array Bool} {vs : Nat → Value} {a : Act} {w : World} (hc : Chk ops ix) (h : FInvU ops a0 S U kill F listed vs a w)
    (hall : ∀ j, j < ops.size → listed.getD j false = true) : a = fill vs 0 ops.toList a0 := by
  have ht : ∀ t : Nat, a.tmps[t]? = (fill vs 0 ops.toList a0).tmps[t]? := fun t => by
    by_cases hx : ∃ (j : Nat) (o : Oper), ops[j]? = some o ∧ o.dst = some t
    · obtain ⟨j, o, ho, hd⟩ := hx
      have hj := (Array.getElem?_eq_some_iff.1 ho).1
      by_cases hlt : t < a0.tmps.size
      · rw [h.slot j o t ho (hall j hj) hd hlt, fill_at vs t ops.toList 0 a0 j o (by simpa using ho) hd hlt (fun j' o' h1 h2 => hc.dist j o ho j' o' (by simpa using h1) h2 t hd)]
        simp
      · rw [Array.getElem?_eq_none (by rw [h.size]; omega), Array.getElem?_eq_none (by rw [fill_size]; omega)]
    · rw [h.other t (fun j o ho _ hd => hx ⟨j, o, ho, hd⟩), fill_other vs t _ _ _ (fun o ho hd => by
        obtain ⟨j, hj⟩ := List.getElem?_of_mem ho
        exact hx ⟨j, o, by simpa using hj, hd⟩)]
  have h1 : a.tmps = (fill vs 0 ops.toList a0).tmps := Array.ext_getElem? ht
  have h2 : a.defers = (fill vs 0 ops.toList a0).defers := by rw [fill_defers, h.defers]
  cases a; cases hf : fill vs 0 ops.toList a0
  rw [hf] at h1 h2
  simp_all
theorem FInvU.waits {F : Nat → Fact} {listed : Array Bool} {vs : Nat → Value} {a : Act} {w : World} (h : FInvU ops a0 S U kill F listed vs a w) {i : Nat} (hun : listed.getD i true = false) :
    ∀ (n k : Nat), waitsT ops n k i = true → listed.getD k true = false
  | 0, k, hw => by
    have : k = i := by simpa [waitsT] using hw
    rw [this]; exact hun
  | n + 1, k, hw => by
    unfold waitsT at hw
    rw [Bool.or_eq_true] at hw
    rcases hw with hw | hw
    · have : k = i := by simpa using hw
      rw [this]; exact hun
    · cases ho : ops[k]? with
      | none => simp [ho] at hw
      | some o =>
        simp only [ho] at hw
        obtain ⟨e, he, hb⟩ := Array.any_eq_true'.1 hw
        simp only [Bool.and_eq_true] at hb
        have h1 := FInvU.waits h hun n e.on hb.2
        have hlt := (Array.getElem?_eq_some_iff.1 ho).1
        cases hl : listed.getD k false with
        | false => exact getD_in (by rw [h.lsize]; exact hlt) hl
        | true =>
          have := h.closed k o ho hl e he hb.1
          rw [getD_both h1] at this
          cases this
/-- Where an operation looks, the state at hand and the state filled in order are alike. -/
theorem FInvU.alike {F : Nat → Fact} {listed : Array Bool} {vs : Nat → Value} {a : Act} {w : World} (hc : Chk ops ix) (h : FInvU ops a0 S U kill F listed vs a w)
    {i : Nat} {o : Oper} (ho : ops[i]? = some o) (hd : ∀ e ∈ o.after, Region.binds .any e = true → listed.getD e.on false = true) (hun : listed.getD i true = false) (t : Nat) (ht : t ∈ o.looksAt ops) :
    a.tmps[t]? = (fill vs 0 (ops.toList.take i) a0).tmps[t]? := by
  by_cases hx : ∃ (j : Nat) (oj : Oper), ops[j]? = some oj ∧ oj.dst = some t
  · obtain ⟨j, oj, hj, hdj⟩ := hx
    rcases hc.looks i o ho t ht j oj hj hdj with ⟨e, he, hb, rfl⟩ | ⟨hij, hwt⟩
    case inr =>
      have hnl := h.waits hun 30 j hwt
      rw [h.other t (fun j' oj' hj' hl' hd' => by
        by_cases hjj : j' = j
        · subst hjj; rw [getD_both hnl] at hl'; cases hl'
        · exact hc.dist j oj hj j' oj' hj' hjj t hdj hd')]
      rw [fill_other vs t _ _ _ (fun oj' hoj' hdj' => by
        obtain ⟨j', hj'⟩ := List.getElem?_of_mem hoj'
        have hlt' : j' < i := by
          rcases Nat.lt_or_ge j' i with hh | hh
          · exact hh
          · rw [List.getElem?_take_eq_none hh] at hj'; cases hj'
        rw [List.getElem?_take_of_lt hlt'] at hj'
        exact hc.dist j oj hj j' oj' (by simpa using hj') (by omega) t hdj hdj')]
    have hlt := hc.back i o ho e he hb
    by_cases hs : t < a0.tmps.size
    · rw [h.slot _ oj t hj (hd e he hb) hdj hs, fill_at vs t _ 0 a0 e.on oj (by rw [List.getElem?_take_of_lt hlt]; simpa using hj) hdj hs (fun j' o' h1 h2 =>
        hc.dist e.on oj hj j' o' (by
          have : j' < i := by
            rcases Nat.lt_or_ge j' i with hh | hh
            · exact hh
            · rw [List.getElem?_take_eq_none hh] at h1; cases h1
          rw [List.getElem?_take_of_lt this] at h1; simpa using h1) h2 t hdj)]
      simp
    · rw [Array.getElem?_eq_none (by rw [h.size]; omega), Array.getElem?_eq_none (by rw [fill_size]; omega)]
  · rw [h.other t (fun j oj hj _ hdj => hx ⟨j, oj, hj, hdj⟩), fill_other vs t _ _ _ (fun oj hoj hdj => by
      obtain ⟨j, hj⟩ := List.getElem?_of_mem (List.mem_of_mem_take hoj)
      exact hx ⟨j, oj, by simpa using hj, hdj⟩)]
theorem factsU_go (hks : chkKs ops kill ks = true) (hc : Chk ops ix) (hR : ∀ i j vs w w', i ≠ j → Region.waitsFor .any ops j i = false → kill j ≠ some i → R i w w' → (Fact.mk (ix.getD j []) (p j)).at vs w → (Fact.mk (ix.getD j []) (p j)).at vs w')
    (hU : ∀ i j w w', i ≠ j → Region.waitsFor .any ops i j = false → R i w w' → U j w → U j w')
    (hs : FStepsU P ops a0 S R U kill ks (fun i => ⟨ix.getD i [], p i⟩) 0 ops.toList)
    (hQ : ∀ vs w', (∀ j, j < ops.size → kill j = none → (Fact.mk (ix.getD j []) (p j)).at vs w') → S w' → Q .normal (fill vs 0 ops.toList a0) w') :
    ∀ (fuel : Nat) (listed : Array Bool) (LL : List Nat) (vs : Nat → Value) (a : Act) (w : World), (∀ i, i < ops.size → listed.getD i true = false → i ∈ LL) → LL.length ≤ fuel →
      FInvU ops a0 S U kill (fun i => ⟨ix.getD i [], p i⟩) listed vs a w → wpAny P .any ops Q fuel listed a w := by
  have fin : ∀ (listed : Array Bool) (vs : Nat → Value) (a : Act) (w : World), FInvU ops a0 S U kill (fun i => ⟨ix.getD i [], p i⟩) listed vs a w → Region.ready .any ops listed = [] → Q .normal a w := fun listed vs a w hi hr => by
    have hall : ∀ n j, j < n → j < ops.size → listed.getD j false = true := fun n => by
      induction n with
      | zero => intro j hj; omega
      | succ n ih =>
        intro j hj hlt
        by_cases hjn : j < n
        · exact ih j hjn hlt
        · have hjn' : j = n := by omega
          subst hjn'
          cases hl : listed.getD j false with
          | true => rfl
          | false =>
            have hun := getD_in (by rw [hi.lsize]; exact hlt) hl
            have ho : ops[j]? = some ops[j] := Array.getElem?_eq_getElem hlt
            have : j ∈ Region.ready .any ops listed := mem_ready.2 ⟨hun, ops[j], ho, fun e he hb => ih e.on (hc.back j _ ho e he hb) (by have := hc.back j _ ho e he hb; omega)⟩
            rw [hr] at this
            cases this
    rw [hi.filled hc (fun j hj => hall (j + 1) j (by omega) hj)]
    exact hQ vs w (fun j hj hkn => hi.facts j ops[j] (Array.getElem?_eq_getElem hj) (hall (j + 1) j (by omega) hj) (fun k hk => by rw [hkn] at hk; cases hk)) hi.s
  intro fuel
  induction fuel with
  | zero =>
    intro listed LL vs a w hLL hl hi
    have hr : Region.ready .any ops listed = [] := by
      rcases hx : Region.ready .any ops listed with _ | ⟨i, l⟩
      · rfl
      · have hm : i ∈ Region.ready .any ops listed := by rw [hx]; exact List.mem_cons_self ..
        obtain ⟨hun, o, ho, _⟩ := mem_ready.1 hm
        have := hLL i (Array.getElem?_eq_some_iff.1 ho).1 hun
        have hL0 : LL = [] := List.length_eq_zero_iff.1 (by omega)
        rw [hL0] at this
        cases this
    exact ⟨hr, fin listed vs a w hi hr⟩
  | succ fuel ih =>
    intro listed LL vs a w hLL hl hi
    refine ⟨fin listed vs a w hi, fun i hir => ?_⟩
    obtain ⟨hun, o, ho, hall⟩ := mem_ready.1 hir
    have hlt := (Array.getElem?_eq_some_iff.1 ho).1
    have hst := FStepsU.get P ops a0 S R U kill ks _ ops.toList 0 hs i o (by simpa using ho)
    rw [Nat.zero_add] at hst
    have hstep := hst vs w hi.s (hi.unl i o ho hun) (fun e he hb hkk => hi.facts e.on _ (Array.getElem?_eq_getElem (by have := hc.back i o ho e he hb; omega)) (hall e he hb) (fun k hk => by
      rcases hkk k hk with h9 | h9
      · rw [h9]; exact hun
      · have h8 := List.all_eq_true.1 hks _ h9
        simp only [hk] at h8
        exact hi.waits hun 30 k h8))
    have hal := hi.alike hc ho hall hun
    have hex : execOp a.eval o = execOp (fill vs 0 (ops.toList.take i) a0).eval o := execOp_congr o (hc.sel i o ho) fun x hx => by
      cases x with
      | tmp t =>
        have ht : t ∈ o.looksAt ops := List.mem_append_left _ (List.mem_filterMap.2 ⟨.tmp t, by simpa using hx, rfl⟩)
        have := hal t ht
        simp only [Act.eval, Array.getD_eq_getD_getElem?, this]
      | _ => rfl
    have hwa : Region.wanted o (yielded ops a.tmps) = Region.wanted o (yielded ops (fill vs 0 (ops.toList.take i) a0).tmps) := by
      unfold Region.wanted
      cases hg : o.guard with
      | none => rfl
      | some g =>
        obtain ⟨g, want⟩ := g
        have : yielded ops a.tmps g = yielded ops (fill vs 0 (ops.toList.take i) a0).tmps g := by
          unfold yielded
          cases hgd : (ops[g]?).bind (·.dst) with
          | none => rfl
          | some t =>
            have ht : t ∈ o.looksAt ops := List.mem_append_right _ (by simp [hg, hgd])
            simp only [Option.bind_some, hal t ht]
        simp only [this]
    -- one operation's value lands
    have land : ∀ (u : Value) (w' : World), FPostU a0 S (R i) ⟨ix.getD i [], p i⟩ i o.dst vs w ((fill vs 0 (ops.toList.take i) a0).put o.dst u) w' →
        wpAny P .any ops Q fuel (listed.setIfInBounds i true) (a.put o.dst u) w' := fun u w' ⟨_, hf, hS, hRw⟩ => by
      refine ih _ (LL.erase i) (fun j => if j = i then got ((fill vs 0 (ops.toList.take i) a0).put o.dst u) o.dst else vs j) _ _ (fun j hj hjl => ?_) ?_ ⟨?_, ?_, ?_, ?_, ?_, ?_, hS, ?_, ?_⟩
      · by_cases hij : i = j
        · subst hij
          have h0 : i < listed.size := by rw [hi.lsize]; exact hlt
          simp [h0] at hjl
        · rw [getD_set_ne true hij] at hjl
          exact (List.mem_erase_of_ne (Ne.symm hij)).2 (hLL j hj hjl)
      · rw [List.length_erase_of_mem (hLL i hlt hun)]; omega
      · simp [hi.lsize]
      · intro j oj hj hl' e he hb
        by_cases hij : i = j
        · subst hij
          have : oj = o := Option.some.inj (hj.symm.trans ho)
          subst this
          exact getD_set_true (hall e he hb)
        · rw [getD_set_ne false hij] at hl'
          exact getD_set_true (hi.closed j oj hj hl' e he hb)
      · rw [put_size, hi.size]
      · rw [put_defers, hi.defers]
      · intro j oj d hj hl' hd hds
        by_cases hij : i = j
        · subst hij
          have : oj = o := Option.some.inj (hj.symm.trans ho)
          subst this
          simp only [if_true, hd, got]
          rw [put_same _ _ _ (by rw [hi.size]; exact hds)]
          have h9 := put_same (fill vs 0 (ops.toList.take i) a0) d u (by rw [fill_size]; exact hds)
          simp only [Array.getD_eq_getD_getElem?, h9, Option.getD_some]
        · rw [getD_set_ne false hij] at hl'
          rw [put_other _ _ _ _ (fun hdo => hc.dist j oj hj i o ho hij d hd hdo), hi.slot j oj d hj hl' hd hds]
          simp [Ne.symm hij]
      · intro t ht
        have h1 : o.dst ≠ some t := ht i o ho (by
          have h0 : i < listed.size := by rw [hi.lsize]; exact hlt
          simp [h0])
        rw [put_other _ _ _ _ h1]
        exact hi.other t fun j oj hj hl' => ht j oj hj (getD_set_true hl')
      · intro j oj hj hl'
        by_cases hij : i = j
        · subst hij
          have h0 : i < listed.size := by rw [hi.lsize]; exact hlt
          simp [h0] at hl'
        · rw [getD_set_ne true hij] at hl'
          refine hU i j w w' hij ?_ hRw (hi.unl j oj hj hl')
          cases hwf : Region.waitsFor .any ops i j with
          | false => rfl
          | true =>
            obtain ⟨oi, hoi, e, he, hb, rfl⟩ := Region.waitsFor_spec hwf
            have : oi = o := Option.some.inj (hoi.symm.trans ho)
            subst this
            have := hall e he hb
            rw [getD_both hl'] at this
            cases this
      · intro j oj hj hl' hkl
        by_cases hij : i = j
        · subst hij; exact hf
        · rw [getD_set_ne false hij] at hl'
          have hwn : Region.waitsFor .any ops j i = false := by
            cases hwf : Region.waitsFor .any ops j i with
            | false => rfl
            | true =>
              obtain ⟨oj', hoj, e, he, hb, rfl⟩ := Region.waitsFor_spec hwf
              have : oj' = oj := Option.some.inj (hoj.symm.trans hj)
              subst this
              have := hi.closed j oj' hj hl' e he hb
              rw [getD_both hun] at this
              cases this
          have hkn : kill j ≠ some i := by
            intro hk
            have h0 : i < listed.size := by rw [hi.lsize]; exact hlt
            have := hkl i hk
            simp [h0] at this
          have hkk : ∀ k, kill j = some k → listed.getD k true = false := by
            intro k hk
            by_cases hik : i = k
            · subst hik; exact hun
            · have := hkl k hk
              rwa [getD_set_ne true hik] at this
          refine Fact.at_congr _ (fun k hk => ?_) (hR i j vs w w' hij hwn hkn hRw (hi.facts j oj hj hl' hkk))
          have hki : k ≠ i := fun hki => by
            subst hki
            rcases hc.ixs j oj hj k hk with h1 | ⟨e, he, hb, rfl⟩
            · exact hij h1
            · have := hi.closed j oj hj hl' e he hb
              rw [getD_both hun] at this
              cases this
          simp [hki]
    unfold wpOp
    simp only [ho]
    simp only [wpList] at hstep
    rw [hwa]
    split
    · rename_i hw
      simp only [hw, if_true] at hstep
      rcases hstep with hstep | ⟨_, _, _, hf⟩
      case inr => exact hf.elim
      refine .inl ?_
      unfold Oper.wp at *
      rw [hex]
      generalize (execOp (fill vs 0 (ops.toList.take i) a0).eval o).run P w = r at *
      cases r with
      | ok n w' =>
        cases n <;> simp only [Oper.upon] at hstep ⊢
        case value u => exact land u w' hstep
        case skip => exact land _ w' hstep
        case defer d =>
          have := hstep.1
          rw [put_defers, fill_defers] at this
          exact absurd (congrArg List.length this) (by simp)
        case enter f args =>
          refine Calls.mono hstep fun e w'' he => ?_
          cases e with
          | returned u => exact land u w'' he
          | panicked c => exact he.elim
          | outgrown => obtain ⟨_, _, hf⟩ := he; exact hf.elim
        case row row args => exact Rows.mono hstep fun u w'' he => land u w'' he
      | halt x w' =>
        cases x <;> simp only [Oper.upon] at hstep ⊢
    · rename_i hw
      simp only [hw, Bool.false_eq_true, if_false] at hstep
      exact land _ w hstep
/-- A region that draws its order, by facts. -/
theorem wp_region_factsU {id : Nat} {a : Act} {w : World} (ix : List (List Nat)) (S : World → Prop) (R : Nat → World → World → Prop) (U : Nat → World → Prop) (kill : Nat → Option Nat) (p : Nat → (Nat → Value) → World → Prop) (ks : List (Nat × Nat) := [])
    (hm : P.follows .mixedOrders = true) (hc : chk ops ix = true) (hS : S w.drew)
    (hR : ∀ i j vs w w', i ≠ j → Region.waitsFor .any ops j i = false → kill j ≠ some i → R i w w' → (Fact.mk (ix.getD j []) (p j)).at vs w → (Fact.mk (ix.getD j []) (p j)).at vs w')
    (hU0 : ∀ j, U j w.drew) (hU : ∀ i j w w', i ≠ j → Region.waitsFor .any ops i j = false → R i w w' → U j w → U j w')
    (hs : FStepsU P ops a S R U kill ks (fun i => ⟨ix.getD i [], p i⟩) 0 ops.toList)
    (hQ : ∀ vs w', (∀ j, j < ops.size → kill j = none → (Fact.mk (ix.getD j []) (p j)).at vs w') → S w' → Q .normal (fill vs 0 ops.toList a) w') (hks : chkKs ops kill ks = true := by kernel_rfl) : (Code.region id ops true).wp P Q a w := by
  refine wp_region_any hm (factsU_go hks (chk_spec hc) hR hU hs hQ ops.size _ (List.range ops.size) (fun _ => undef) a _ (fun i hi _ => List.mem_range.2 hi) (by simp) ⟨by simp, ?_, rfl, rfl, ?_, fun _ _ => rfl, hS, fun j _ _ _ => hU0 j, ?_⟩)
  · intro j oj _ hl; rw [getD_replicate_false] at hl; cases hl
  · intro j o d _ hl; rw [getD_replicate_false] at hl; cases hl
  · intro j o _ hl _; rw [getD_replicate_false] at hl; cases hl
end
end Go.Cour
