/- A region that draws its order: one fact for each operation, shown once; whatever the order, all facts hold behind it. -/
import Derived.StillTail
import Derived.Tactics
import Derived.Orders
import Derived.KernelRfl
namespace Go.Cour
/-- What is known of an operation's value, and of the world; it speaks of the values of the operations idx only. -/
structure Fact where
  idx : List Nat
  p : (Nat → Value) → World → Prop
def Fact.at (f : Fact) (vs : Nat → Value) (w : World) : Prop := f.p (fun i => if f.idx.contains i then vs i else undef) w
theorem Fact.at_congr (f : Fact) {vs us : Nat → Value} (h : ∀ i ∈ f.idx, vs i = us i) {w : World} (hf : f.at vs w) : f.at us w := by
  unfold Fact.at at *
  have : (fun i => if f.idx.contains i then vs i else undef) = (fun i => if f.idx.contains i then us i else undef) := by
    funext i
    by_cases hc : f.idx.contains i = true
    · simp only [hc, if_true]; exact h i (by simpa using hc)
    · rw [if_neg hc, if_neg hc]
  rw [← this]; exact hf
/-- The operations' values, laid in their order. -/
def fill (vs : Nat → Value) : Nat → List Oper → Act → Act
  | _, [], a => a
  | k, o :: rest, a => fill vs (k + 1) rest (a.put o.dst (vs k))
def got (a : Act) : Option Tmp → Value
  | some d => a.tmps.getD d undef
  | none => undef
theorem put_defers (a : Act) (d : Option Tmp) (v : Value) : (a.put d v).defers = a.defers := by cases d <;> rfl
theorem put_size (a : Act) (d : Option Tmp) (v : Value) : (a.put d v).tmps.size = a.tmps.size := by cases d <;> simp [Act.put]
theorem put_other (a : Act) (d : Option Tmp) (v : Value) (t : Nat) (h : d ≠ some t) : (a.put d v).tmps[t]? = a.tmps[t]? := by
  cases d with
  | none => rfl
  | some e => exact Array.getElem?_setIfInBounds_ne (by intro he; exact h (by rw [he]))
theorem put_same (a : Act) (t : Nat) (v : Value) (h : t < a.tmps.size) : (a.put (some t) v).tmps[t]? = some v := by
  simp [Act.put, h]
theorem fill_defers (vs : Nat → Value) : ∀ (l : List Oper) (k : Nat) (a : Act), (fill vs k l a).defers = a.defers
  | [], _, _ => rfl
  | o :: l, k, a => by simp only [fill]; rw [fill_defers vs l, put_defers]
theorem fill_size (vs : Nat → Value) : ∀ (l : List Oper) (k : Nat) (a : Act), (fill vs k l a).tmps.size = a.tmps.size
  | [], _, _ => rfl
  | o :: l, k, a => by simp only [fill]; rw [fill_size vs l, put_size]
theorem fill_other (vs : Nat → Value) (t : Nat) : ∀ (l : List Oper) (k : Nat) (a : Act), (∀ o ∈ l, o.dst ≠ some t) → (fill vs k l a).tmps[t]? = a.tmps[t]?
  | [], _, _, _ => rfl
  | o :: l, k, a, h => by
    simp only [fill]
    rw [fill_other vs t l _ _ (fun o' ho' => h o' (List.mem_cons_of_mem _ ho')), put_other _ _ _ _ (h o (List.mem_cons_self ..))]
theorem fill_at (vs : Nat → Value) (t : Nat) : ∀ (l : List Oper) (k : Nat) (a : Act) (j : Nat) (o : Oper), l[j]? = some o → o.dst = some t → t < a.tmps.size →
    (∀ j' o', l[j']? = some o' → j' ≠ j → o'.dst ≠ some t) → (fill vs k l a).tmps[t]? = some (vs (k + j))
  | [], _, _, j, o, h, _, _, _ => by simp at h
  | o0 :: l, k, a, 0, o, h, hd, ht, hdist => by
    simp only [List.getElem?_cons_zero, Option.some.injEq] at h
    subst h
    simp only [fill]
    rw [fill_other vs t l _ _ (fun o' ho' => by
      obtain ⟨j', hj'⟩ := List.getElem?_of_mem ho'
      exact hdist (j' + 1) o' (by simpa using hj') (by omega)), hd, put_same _ _ _ ht]
    rfl
  | o0 :: l, k, a, j + 1, o, h, hd, ht, hdist => by
    simp only [fill]
    rw [fill_at vs t l (k + 1) _ j o (by simpa using h) hd (by rw [put_size]; exact ht) (fun j' o' h1 h2 => hdist (j' + 1) o' (by simpa using h1) (by omega))]
    congr 2; omega

/-- What stands behind operation i. -/
structure FPost (a0 : Act) (S : World → Prop) (R : World → World → Prop) (f : Fact) (i : Nat) (d : Option Tmp) (vs : Nat → Value) (w : World) (a' : Act) (w' : World) : Prop where
  defers : a'.defers = a0.defers
  fact : f.at (fun j => if j = i then got a' d else vs j) w'
  s : S w'
  r : R w w'
section
variable (P : Program) (ops : Array Oper) (a0 : Act) (S : World → Prop) (R : World → World → Prop) (F : Nat → Fact)
/-- Operation i, with what it waits for behind it, shows its fact. -/
def FStep (i : Nat) (o : Oper) : Prop := ∀ (vs : Nat → Value) (w : World), S w → (∀ e ∈ o.after, Region.binds .any e = true → (F e.on).at vs w) →
  wpList P ops (fun ex a' w' => match ex with
    | .normal => FPost a0 S R (F i) i o.dst vs w a' w'
    | _ => False) [o] (fill vs 0 (ops.toList.take i) a0) w
def FSteps : Nat → List Oper → Prop
  | _, [] => True
  | k, o :: rest => FStep P ops a0 S R F k o ∧ FSteps (k + 1) rest
theorem FSteps.get : ∀ (l : List Oper) (k : Nat), FSteps P ops a0 S R F k l → ∀ j o, l[j]? = some o → FStep P ops a0 S R F (k + j) o
  | [], _, _, j, o, h => by simp at h
  | o0 :: l, k, hs, 0, o, h => by simp only [List.getElem?_cons_zero, Option.some.injEq] at h; subst h; exact hs.1
  | o0 :: l, k, hs, j + 1, o, h => by
    have := FSteps.get l (k + 1) hs.2 j o (by simpa using h)
    rwa [show k + 1 + j = k + (j + 1) by omega] at this
end
/-- Operation k stands behind operation i, by n steps at most. -/
def waitsT (ops : Array Oper) : Nat → Nat → Nat → Bool
  | 0, k, i => k == i
  | n + 1, k, i => k == i || (match ops[k]? with
    | some o => o.after.any fun e => Region.binds .any e && waitsT ops n e.on i
    | none => false)
def isSelect : Op → Bool
  | .select _ _ => true
  | _ => false
/-- What the law asks of the region's text. -/
def chkOne (ops : Array Oper) (ix : List (List Nat)) (i : Nat) : Bool :=
  match ops[i]? with
  | none => true
  | some o => (o.after.all fun e => !Region.binds .any e || decide (e.on < i)) && !isSelect o.op &&
    ((o.looksAt ops).all fun t => (List.range ops.size).all fun j => (((ops[j]?).bind (·.dst)) != some t) || (Region.waitsFor .any ops i j) || (decide (i ≤ j) && waitsT ops 30 j i)) &&
    ((List.range ops.size).all fun j => j == i || o.dst.isNone || (((ops[j]?).bind (·.dst)) != o.dst)) &&
    ((ix.getD i []).all fun j => j == i || Region.waitsFor .any ops i j)
def chk (ops : Array Oper) (ix : List (List Nat)) : Bool := (List.range ops.size).all (chkOne ops ix)
structure Chk (ops : Array Oper) (ix : List (List Nat)) : Prop where
  back : ∀ (i : Nat) (o : Oper), ops[i]? = some o → ∀ e ∈ o.after, Region.binds .any e = true → e.on < i
  sel : ∀ (i : Nat) (o : Oper), ops[i]? = some o → ∀ cs b, o.op ≠ .select cs b
  looks : ∀ (i : Nat) (o : Oper), ops[i]? = some o → ∀ t ∈ o.looksAt ops, ∀ (j : Nat) (oj : Oper), ops[j]? = some oj → oj.dst = some t → (∃ e ∈ o.after, Region.binds .any e = true ∧ e.on = j) ∨ (i ≤ j ∧ waitsT ops 30 j i = true)
  dist : ∀ (i : Nat) (o : Oper), ops[i]? = some o → ∀ (j : Nat) (oj : Oper), ops[j]? = some oj → j ≠ i → ∀ t, o.dst = some t → oj.dst ≠ some t
  ixs : ∀ (i : Nat) (o : Oper), ops[i]? = some o → ∀ j ∈ ix.getD i [], j = i ∨ ∃ e ∈ o.after, Region.binds .any e = true ∧ e.on = j
theorem chk_spec {ops : Array Oper} {ix : List (List Nat)} (h : chk ops ix = true) : Chk ops ix := by
  have h1 : ∀ i o, ops[i]? = some o → chkOne ops ix i = true := fun i o ho =>
    List.all_eq_true.1 h i (List.mem_range.2 (Array.getElem?_eq_some_iff.1 ho).1)
  have wf : ∀ i o j, ops[i]? = some o → Region.waitsFor .any ops i j = true → ∃ e ∈ o.after, Region.binds .any e = true ∧ e.on = j := fun i o j ho hw => by
    obtain ⟨oj, hoj, e, he, hb, hon⟩ := Region.waitsFor_spec hw
    have : oj = o := Option.some.inj (hoj.symm.trans ho)
    subst this
    exact ⟨e, he, hb, hon⟩
  have h2 : ∀ i o, ops[i]? = some o → (((o.after.all fun e => !Region.binds .any e || decide (e.on < i)) = true ∧ isSelect o.op = false) ∧
    ((o.looksAt ops).all fun t => (List.range ops.size).all fun j => (((ops[j]?).bind (·.dst)) != some t) || (Region.waitsFor .any ops i j) || (decide (i ≤ j) && waitsT ops 30 j i)) = true) ∧
    ((List.range ops.size).all fun j => j == i || o.dst.isNone || (((ops[j]?).bind (·.dst)) != o.dst)) = true ∧
    ((ix.getD i []).all fun j => j == i || Region.waitsFor .any ops i j) = true := fun i o ho => by
    have := h1 i o ho
    unfold chkOne at this
    simp only [ho, Bool.and_eq_true, Bool.not_eq_true'] at this
    exact ⟨⟨this.1.1.1, this.1.1.2⟩, this.1.2, this.2⟩
  refine ⟨fun i o ho e he hb => ?_, fun i o ho cs b hs => ?_, fun i o ho t ht j oj hj hd => ?_, fun i o ho j oj hj hne t ht htj => ?_, fun i o ho j hj => ?_⟩
  · have := Array.all_eq_true'.1 (h2 i o ho).1.1.1 e he
    simpa [hb] using this
  · have := (h2 i o ho).1.1.2
    rw [hs] at this
    simp [isSelect] at this
  · have := List.all_eq_true.1 (List.all_eq_true.1 (h2 i o ho).1.2 t ht) j (List.mem_range.2 (Array.getElem?_eq_some_iff.1 hj).1)
    simp only [hj, Option.bind_some, hd, Bool.or_eq_true, bne_self_eq_false, Bool.false_eq_true, false_or, Bool.and_eq_true, decide_eq_true_eq] at this
    exact this.imp (wf i o j ho) id
  · have := List.all_eq_true.1 (h2 i o ho).2.1 j (List.mem_range.2 (Array.getElem?_eq_some_iff.1 hj).1)
    simp [hj, ht, htj, hne] at this
  · have := List.all_eq_true.1 (h2 i o ho).2.2 j hj
    simp only [Bool.or_eq_true, beq_iff_eq] at this
    exact this.imp id (wf i o j ho)

section
variable {P : Program} {ops : Array Oper} {a0 : Act} {S : World → Prop} {R : World → World → Prop} {ix : List (List Nat)} {p : Nat → (Nat → Value) → World → Prop} {Q : Exit → Act → World → Prop}
structure FInv (ops : Array Oper) (a0 : Act) (S : World → Prop) (F : Nat → Fact) (listed : Array Bool) (vs : Nat → Value) (a : Act) (w : World) : Prop where
  lsize : listed.size = ops.size
  closed : ∀ (j : Nat) (oj : Oper), ops[j]? = some oj → listed.getD j false = true → ∀ e ∈ oj.after, Region.binds .any e = true → listed.getD e.on false = true
  size : a.tmps.size = a0.tmps.size
  defers : a.defers = a0.defers
  slot : ∀ (j : Nat) (o : Oper) (d : Nat), ops[j]? = some o → listed.getD j false = true → o.dst = some d → d < a0.tmps.size → a.tmps[d]? = some (vs j)
  other : ∀ (t : Nat), (∀ (j : Nat) (o : Oper), ops[j]? = some o → listed.getD j false = true → o.dst ≠ some t) → a.tmps[t]? = a0.tmps[t]?
  s : S w
  facts : ∀ (j : Nat) (o : Oper), ops[j]? = some o → listed.getD j false = true → (F j).at vs w
theorem FInv.filled {F : Nat → Fact} {listed : Array Bool} {vs : Nat → Value} {a : Act} {w : World} (hc : Chk ops ix) (h : FInv ops a0 S F listed vs a w)
    (hall : ∀ j, j < ops.size → listed.getD j false = true) : a = fill vs 0 ops.toList a0 := by
  have ht : ∀ t : Nat, a.tmps[t]? = (fill vs 0 ops.toList a0).tmps[t]? := fun t => by
    by_cases hx : ∃ (j : Nat) (o : Oper), ops[j]? = some o ∧ o.dst = some t
    · obtain ⟨j, o, ho, hd⟩ := hx
      have hj := (Array.getElem?_eq_some_iff.1 ho).1
      by_cases hlt : t < a0.tmps.size
      · rw [h.slot j o t ho (hall j hj) hd hlt, fill_at vs t ops.toList 0 a0 j o (by simpa using ho) hd hlt (fun j' o' h1 h2 => hc.dist j o ho j' o' (by simpa using h1) h2 t hd)]
        simp
      · rw [Array.getElem?_eq_none (by rw [h.size]; omega), Array.getElem?_eq_none (by rw [fill_size]; omega)]
    · rw [h.other t (fun j o ho _ hd => hx ⟨j, o, ho, hd⟩), fill_other vs t _ _ _ (fun o ho hd => by
        obtain ⟨j, hj⟩ := List.getElem?_of_mem ho
        exact hx ⟨j, o, by simpa using hj, hd⟩)]
  have h1 : a.tmps = (fill vs 0 ops.toList a0).tmps := Array.ext_getElem? ht
  have h2 : a.defers = (fill vs 0 ops.toList a0).defers := by rw [fill_defers, h.defers]
  cases a; cases hf : fill vs 0 ops.toList a0
  rw [hf] at h1 h2
  simp_all
theorem FInv.waits {F : Nat → Fact} {listed : Array Bool} {vs : Nat → Value} {a : Act} {w : World} (h : FInv ops a0 S F listed vs a w) {i : Nat} (hun : listed.getD i true = false) :
    ∀ (n k : Nat), waitsT ops n k i = true → listed.getD k true = false
  | 0, k, hw => by
    have : k = i := by simpa [waitsT] using hw
    rw [this]; exact hun
  | n + 1, k, hw => by
    unfold waitsT at hw
    rw [Bool.or_eq_true] at hw
    rcases hw with hw | hw
    · have : k = i := by simpa using hw
      rw [this]; exact hun
    · cases ho : ops[k]? with
      | none => simp [ho] at hw
      | some o =>
        simp only [ho] at hw
        obtain ⟨e, he, hb⟩ := Array.any_eq_true'.1 hw
        simp only [Bool.and_eq_true] at hb
        have h1 := FInv.waits h hun n e.on hb.2
        have hlt := (Array.getElem?_eq_some_iff.1 ho).1
        cases hl : listed.getD k false with
        | false => exact getD_in (by rw [h.lsize]; exact hlt) hl
        | true =>
          have := h.closed k o ho hl e he hb.1
          rw [getD_both h1] at this
          cases this
/-- Where an operation looks, the state at hand and the state filled in order are alike. -/
theorem FInv.alike {F : Nat → Fact} {listed : Array Bool} {vs : Nat → Value} {a : Act} {w : World} (hc : Chk ops ix) (h : FInv ops a0 S F listed vs a w)
    {i : Nat} {o : Oper} (ho : ops[i]? = some o) (hd : ∀ e ∈ o.after, Region.binds .any e = true → listed.getD e.on false = true) (hun : listed.getD i true = false) (t : Nat) (ht : t ∈ o.looksAt ops) :
    a.tmps[t]? = (fill vs 0 (ops.toList.take i) a0).tmps[t]? := by
  by_cases hx : ∃ (j : Nat) (oj : Oper), ops[j]? = some oj ∧ oj.dst = some t
  · obtain ⟨j, oj, hj, hdj⟩ := hx
    rcases hc.looks i o ho t ht j oj hj hdj with ⟨e, he, hb, rfl⟩ | ⟨hij, hwt⟩
    case inr =>
      have hnl := h.waits hun 30 j hwt
      rw [h.other t (fun j' oj' hj' hl' hd' => by
        by_cases hjj : j' = j
        · subst hjj; rw [getD_both hnl] at hl'; cases hl'
        · exact hc.dist j oj hj j' oj' hj' hjj t hdj hd')]
      rw [fill_other vs t _ _ _ (fun oj' hoj' hdj' => by
        obtain ⟨j', hj'⟩ := List.getElem?_of_mem hoj'
        have hlt' : j' < i := by
          rcases Nat.lt_or_ge j' i with hh | hh
          · exact hh
          · rw [List.getElem?_take_eq_none hh] at hj'; cases hj'
        rw [List.getElem?_take_of_lt hlt'] at hj'
        exact hc.dist j oj hj j' oj' (by simpa using hj') (by omega) t hdj hdj')]
    have hlt := hc.back i o ho e he hb
    by_cases hs : t < a0.tmps.size
    · rw [h.slot _ oj t hj (hd e he hb) hdj hs, fill_at vs t _ 0 a0 e.on oj (by rw [List.getElem?_take_of_lt hlt]; simpa using hj) hdj hs (fun j' o' h1 h2 =>
        hc.dist e.on oj hj j' o' (by
          have : j' < i := by
            rcases Nat.lt_or_ge j' i with hh | hh
            · exact hh
            · rw [List.getElem?_take_eq_none hh] at h1; cases h1
          rw [List.getElem?_take_of_lt this] at h1; simpa using h1) h2 t hdj)]
      simp
    · rw [Array.getElem?_eq_none (by rw [h.size]; omega), Array.getElem?_eq_none (by rw [fill_size]; omega)]
  · rw [h.other t (fun j oj hj _ hdj => hx ⟨j, oj, hj, hdj⟩), fill_other vs t _ _ _ (fun oj hoj hdj => by
      obtain ⟨j, hj⟩ := List.getElem?_of_mem (List.mem_of_mem_take hoj)
      exact hx ⟨j, oj, by simpa using hj, hdj⟩)]
theorem facts_go (hc : Chk ops ix) (hR : ∀ j vs w w', R w w' → (Fact.mk (ix.getD j []) (p j)).at vs w → (Fact.mk (ix.getD j []) (p j)).at vs w')
    (hs : FSteps P ops a0 S R (fun i => ⟨ix.getD i [], p i⟩) 0 ops.toList)
    (hQ : ∀ vs w', (∀ j, j < ops.size → (Fact.mk (ix.getD j []) (p j)).at vs w') → S w' → Q .normal (fill vs 0 ops.toList a0) w') :
    ∀ (fuel : Nat) (listed : Array Bool) (U : List Nat) (vs : Nat → Value) (a : Act) (w : World), (∀ i, i < ops.size → listed.getD i true = false → i ∈ U) → U.length ≤ fuel →
      FInv ops a0 S (fun i => ⟨ix.getD i [], p i⟩) listed vs a w → wpAny P .any ops Q fuel listed a w := by
  have fin : ∀ (listed : Array Bool) (vs : Nat → Value) (a : Act) (w : World), FInv ops a0 S (fun i => ⟨ix.getD i [], p i⟩) listed vs a w → Region.ready .any ops listed = [] → Q .normal a w := fun listed vs a w hi hr => by
    have hall : ∀ n j, j < n → j < ops.size → listed.getD j false = true := fun n => by
      induction n with
      | zero => intro j hj; omega
      | succ n ih =>
        intro j hj hlt
        by_cases hjn : j < n
        · exact ih j hjn hlt
        · have hjn' : j = n := by omega
          subst hjn'
          cases hl : listed.getD j false with
          | true => rfl
          | false =>
            have hun := getD_in (by rw [hi.lsize]; exact hlt) hl
            have ho : ops[j]? = some ops[j] := Array.getElem?_eq_getElem hlt
            have : j ∈ Region.ready .any ops listed := mem_ready.2 ⟨hun, ops[j], ho, fun e he hb => ih e.on (hc.back j _ ho e he hb) (by have := hc.back j _ ho e he hb; omega)⟩
            rw [hr] at this
            cases this
    rw [hi.filled hc (fun j hj => hall (j + 1) j (by omega) hj)]
    exact hQ vs w (fun j hj => hi.facts j ops[j] (Array.getElem?_eq_getElem hj) (hall (j + 1) j (by omega) hj)) hi.s
  intro fuel
  induction fuel with
  | zero =>
    intro listed U vs a w hU hl hi
    have hr : Region.ready .any ops listed = [] := by
      rcases hx : Region.ready .any ops listed with _ | ⟨i, l⟩
      · rfl
      · have hm : i ∈ Region.ready .any ops listed := by rw [hx]; exact List.mem_cons_self ..
        obtain ⟨hun, o, ho, _⟩ := mem_ready.1 hm
        have := hU i (Array.getElem?_eq_some_iff.1 ho).1 hun
        have hU0 : U = [] := List.length_eq_zero_iff.1 (by omega)
        rw [hU0] at this
        cases this
    exact ⟨hr, fin listed vs a w hi hr⟩
  | succ fuel ih =>
    intro listed U vs a w hU hl hi
    refine ⟨fin listed vs a w hi, fun i hir => ?_⟩
    obtain ⟨hun, o, ho, hall⟩ := mem_ready.1 hir
    have hlt := (Array.getElem?_eq_some_iff.1 ho).1
    have hst := FSteps.get P ops a0 S R _ ops.toList 0 hs i o (by simpa using ho)
    rw [Nat.zero_add] at hst
    have hstep := hst vs w hi.s (fun e he hb => hi.facts e.on _ (Array.getElem?_eq_getElem (by have := hc.back i o ho e he hb; omega)) (hall e he hb))
    have hal := hi.alike hc ho hall hun
    have hex : execOp a.eval o = execOp (fill vs 0 (ops.toList.take i) a0).eval o := execOp_congr o (hc.sel i o ho) fun x hx => by
      cases x with
      | tmp t =>
        have ht : t ∈ o.looksAt ops := List.mem_append_left _ (List.mem_filterMap.2 ⟨.tmp t, by simpa using hx, rfl⟩)
        have := hal t ht
        simp only [Act.eval, Array.getD_eq_getD_getElem?, this]
      | _ => rfl
    have hwa : Region.wanted o (yielded ops a.tmps) = Region.wanted o (yielded ops (fill vs 0 (ops.toList.take i) a0).tmps) := by
      unfold Region.wanted
      cases hg : o.guard with
      | none => rfl
      | some g =>
        obtain ⟨g, want⟩ := g
        have : yielded ops a.tmps g = yielded ops (fill vs 0 (ops.toList.take i) a0).tmps g := by
          unfold yielded
          cases hgd : (ops[g]?).bind (·.dst) with
          | none => rfl
          | some t =>
            have ht : t ∈ o.looksAt ops := List.mem_append_right _ (by simp [hg, hgd])
            simp only [Option.bind_some, hal t ht]
        simp only [this]
    -- one operation's value lands
    have land : ∀ (u : Value) (w' : World), FPost a0 S R ⟨ix.getD i [], p i⟩ i o.dst vs w ((fill vs 0 (ops.toList.take i) a0).put o.dst u) w' →
        wpAny P .any ops Q fuel (listed.setIfInBounds i true) (a.put o.dst u) w' := fun u w' ⟨_, hf, hS, hRw⟩ => by
      refine ih _ (U.erase i) (fun j => if j = i then got ((fill vs 0 (ops.toList.take i) a0).put o.dst u) o.dst else vs j) _ _ (fun j hj hjl => ?_) ?_ ⟨?_, ?_, ?_, ?_, ?_, ?_, hS, ?_⟩
      · by_cases hij : i = j
        · subst hij
          have h0 : i < listed.size := by rw [hi.lsize]; exact hlt
          simp [h0] at hjl
        · rw [getD_set_ne true hij] at hjl
          exact (List.mem_erase_of_ne (Ne.symm hij)).2 (hU j hj hjl)
      · rw [List.length_erase_of_mem (hU i hlt hun)]; omega
      · simp [hi.lsize]
      · intro j oj hj hl' e he hb
        by_cases hij : i = j
        · subst hij
          have : oj = o := Option.some.inj (hj.symm.trans ho)
          subst this
          exact getD_set_true (hall e he hb)
        · rw [getD_set_ne false hij] at hl'
          exact getD_set_true (hi.closed j oj hj hl' e he hb)
      · rw [put_size, hi.size]
      · rw [put_defers, hi.defers]
      · intro j oj d hj hl' hd hds
        by_cases hij : i = j
        · subst hij
          have : oj = o := Option.some.inj (hj.symm.trans ho)
          subst this
          simp only [if_true, hd, got]
          rw [put_same _ _ _ (by rw [hi.size]; exact hds)]
          have h9 := put_same (fill vs 0 (ops.toList.take i) a0) d u (by rw [fill_size]; exact hds)
          simp only [Array.getD_eq_getD_getElem?, h9, Option.getD_some]
        · rw [getD_set_ne false hij] at hl'
          rw [put_other _ _ _ _ (fun hdo => hc.dist j oj hj i o ho hij d hd hdo), hi.slot j oj d hj hl' hd hds]
          simp [Ne.symm hij]
      · intro t ht
        have h1 : o.dst ≠ some t := ht i o ho (by
          have h0 : i < listed.size := by rw [hi.lsize]; exact hlt
          simp [h0])
        rw [put_other _ _ _ _ h1]
        exact hi.other t fun j oj hj hl' => ht j oj hj (getD_set_true hl')
      · intro j oj hj hl'
        by_cases hij : i = j
        · subst hij; exact hf
        · rw [getD_set_ne false hij] at hl'
          refine Fact.at_congr _ (fun k hk => ?_) (hR j vs w w' hRw (hi.facts j oj hj hl'))
          have hki : k ≠ i := fun hki => by
            subst hki
            rcases hc.ixs j oj hj k hk with h1 | ⟨e, he, hb, rfl⟩
            · exact hij h1
            · have := hi.closed j oj hj hl' e he hb
              rw [getD_both hun] at this
              cases this
          simp [hki]
    unfold wpOp
    simp only [ho]
    simp only [wpList] at hstep
    rw [hwa]
    split
    · rename_i hw
      simp only [hw, if_true] at hstep
      rcases hstep with hstep | ⟨_, _, _, hf⟩
      case inr => exact hf.elim
      refine .inl ?_
      unfold Oper.wp at *
      rw [hex]
      generalize (execOp (fill vs 0 (ops.toList.take i) a0).eval o).run P w = r at *
      cases r with
      | ok n w' =>
        cases n <;> simp only [Oper.upon] at hstep ⊢
        case value u => exact land u w' hstep
        case skip => exact land _ w' hstep
        case defer d =>
          have := hstep.1
          rw [put_defers, fill_defers] at this
          exact absurd (congrArg List.length this) (by simp)
        case enter f args =>
          refine Calls.mono hstep fun e w'' he => ?_
          cases e with
          | returned u => exact land u w'' he
          | panicked c => exact he.elim
          | outgrown => obtain ⟨_, _, hf⟩ := he; exact hf.elim
        case row row args => exact Rows.mono hstep fun u w'' he => land u w'' he
      | halt x w' =>
        cases x <;> simp only [Oper.upon] at hstep ⊢
    · rename_i hw
      simp only [hw, Bool.false_eq_true, if_false] at hstep
      exact land _ w hstep
/-- A region that draws its order, by facts. -/
theorem wp_region_facts {id : Nat} {a : Act} {w : World} (ix : List (List Nat)) (S : World → Prop) (R : World → World → Prop) (p : Nat → (Nat → Value) → World → Prop)
    (hm : P.follows .mixedOrders = true) (hc : chk ops ix = true) (hS : S w.drew)
    (hR : ∀ j vs w w', R w w' → (Fact.mk (ix.getD j []) (p j)).at vs w → (Fact.mk (ix.getD j []) (p j)).at vs w')
    (hs : FSteps P ops a S R (fun i => ⟨ix.getD i [], p i⟩) 0 ops.toList)
    (hQ : ∀ vs w', (∀ j, j < ops.size → (Fact.mk (ix.getD j []) (p j)).at vs w') → S w' → Q .normal (fill vs 0 ops.toList a) w') : (Code.region id ops true).wp P Q a w := by
  refine wp_region_any hm (facts_go (chk_spec hc) hR hs hQ ops.size _ (List.range ops.size) (fun _ => undef) a _ (fun i hi _ => List.mem_range.2 hi) (by simp) ⟨by simp, ?_, rfl, rfl, ?_, fun _ _ => rfl, hS, ?_⟩)
  · intro j oj _ hl; rw [getD_replicate_false] at hl; cases hl
  · intro j o d _ hl; rw [getD_replicate_false] at hl; cases hl
  · intro j o _ hl; rw [getD_replicate_false] at hl; cases hl
end
end Go.Cour
