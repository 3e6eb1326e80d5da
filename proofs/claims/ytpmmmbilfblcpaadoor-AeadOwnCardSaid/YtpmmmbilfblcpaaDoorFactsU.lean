/- XFacts, with what holds ahead of an operation as long as it has not run (U), and a relation for each operation (R i). -/
import Derived.Test.YtpmmmbilfblcpaaDoorFacts
namespace Go.Cour
/-- What stands behind operation i. -/
structure FPostU (a0 : Act) (S : World → Prop) (R : World → World → Prop) (f : Fact) (i : Nat) (d : Option Tmp) (vs : Nat → Value) (w : World) (a' : Act) (w' : World) : Prop where
  defers : a'.defers = a0.defers
  fact : f.at (fun j => if j = i then got a' d else vs j) w'
  s : S w'
  r : R w w'
/-- Each pair (j, i) of ks: what ends fact j stands behind operation i. -/
def chkKs (ops : Array Oper) (kill : Nat → Option Nat) (ks : List (Nat × Nat)) : Bool := ks.all fun x => match kill x.1 with
  | none => true
  | some k => waitsT ops 30 k x.2
section
variable (P : Program) (ops : Array Oper) (a0 : Act) (S : World → Prop) (R : Nat → World → World → Prop) (U : Nat → World → Prop) (kill : Nat → Option Nat) (ks : List (Nat × Nat)) (F : Nat → Fact)
/-- Operation i, with what it waits for behind it, shows its fact. -/
def FStepU (i : Nat) (o : Oper) : Prop := ∀ (vs : Nat → Value) (w : World), S w → U i w → (∀ e ∈ o.after, Region.binds .any e = true → (∀ k, kill e.on = some k → k = i ∨ (e.on, i) ∈ ks) → (F e.on).at vs w) →
  wpList P ops (fun ex a' w' => match ex with
    | .normal => FPostU a0 S (R i) (F i) i o.dst vs w a' w'
    | _ => False) [o] (fill vs 0 (ops.toList.take i) a0) w
def FStepsU : Nat → List Oper → Prop
  | _, [] => True
  | k, o :: rest => FStepU P ops a0 S R U kill ks F k o ∧ FStepsU (k + 1) rest
theorem FStepsU.get : ∀ (l : List Oper) (k : Nat), FStepsU P ops a0 S R U kill ks F k l → ∀ j o, l[j]? = some o → FStepU P ops a0 S R U kill ks F (k + j) o
  | [], _, _, j, o, h => by simp at h
  | o0 :: l, k, hs, 0, o, h => by simp only [List.getElem?_cons_zero, Option.some.injEq] at h; subst h; exact hs.1
  | o0 :: l, k, hs, j + 1, o, h => by
    have := FStepsU.get l (k + 1) hs.2 j o (by simpa using h)
    rwa [show k + 1 + j = k + (j + 1) by omega] at this
end
section
variable {P : Program} {ops : Array Oper} {a0 : Act} {S : World → Prop} {R : Nat → World → World → Prop} {U : Nat → World → Prop} {kill : Nat → Option Nat} {ks : List (Nat × Nat)} {ix : List (List Nat)} {p : Nat → (Nat → Value) → World → Prop} {Q : Exit → Act → World → Prop}
structure FInvU (ops : Array Oper) (a0 : Act) (S : World → Prop) (U : Nat → World → Prop) (kill : Nat → Option Nat) (F : Nat → Fact) (listed : Array Bool) (vs : Nat → Value) (a : Act) (w : World) : Prop where
  lsize : listed.size = ops.size
  closed : ∀ (j : Nat) (oj : Oper), ops[j]? = some oj → listed.getD j false = true → ∀ e ∈ oj.after, Region.binds .any e = true → listed.getD e.on false = true
  size : a.tmps.size = a0.tmps.size
  defers : a.defers = a0.defers
  slot : ∀ (j : Nat) (o : Oper) (d : Nat), ops[j]? = some o → listed.getD j false = true → o.dst = some d → d < a0.tmps.size → a.tmps[d]? = some (vs j)
  other : ∀ (t : Nat), (∀ (j : Nat) (o : Oper), ops[j]? = some o → listed.getD j false = true → o.dst ≠ some t) → a.tmps[t]? = a0.tmps[t]?
  s : S w
  unl : ∀ (j : Nat) (o : Oper), ops[j]? = some o → listed.getD j true = false → U j w
  facts : ∀ (j : Nat) (o : Oper), ops[j]? = some o → listed.getD j false = true → (∀ k, kill j = some k → listed.getD k true = false) → (F j).at vs w
theorem FInvU.filled {F : Nat → Fact} {listed : Array Bool} {vs : Nat → Value} {a : Act} {w : World} (hc : Chk ops ix) (h : FInvU ops a0 S U kill F listed vs a w)
    (hall : ∀ j, j < ops.size → listed.getD j false = true) : a = fill vs 0 ops.toList a0 := by
  have ht : ∀ t : Nat, a.tmps[t]? = (fill vs 0 ops.toList a0).tmps[t]? := fun t => by
    by_cases hx : ∃ (j : Nat) (o : Oper), ops[j]? = some o ∧ o.dst = some t
    · obtain ⟨j, o, ho, hd⟩ := hx
      have hj := (Array.getElem?_eq_some_iff.1 ho).1
      by_cases hlt : t < a0.tmps.size
      · rw [h.slot j o t ho (hall j hj) hd hlt, fill_at vs t ops.toList 0 a0 j o (by simpa using ho) hd hlt (fun j' o' h1 h2 => hc.dist j o ho j' o' (by simpa using h1) h2 t hd)]
        simp
      · rw [Array.getElem?_eq_none (by rw [h.size]; omega), Array.getElem?_eq_none (by rw [fill_size]; omega)]
    · rw [h.other t (fun j o ho _ hd => hx ⟨j, o, ho, hd⟩), fill_other vs t _ _ _ (fun o ho hd => by
        obtain ⟨j, hj⟩ := List.getElem?_of_mem ho
        exact hx ⟨j, o, by simpa using hj, hd⟩)]
  have h1 : a.tmps = (fill vs 0 ops.toList a0).tmps := Array.ext_getElem? ht
  have h2 : a.defers = (fill vs 0 ops.toList a0).defers := by rw [fill_defers, h.defers]
  cases a; cases hf : fill vs 0 ops.toList a0
  rw [hf] at h1 h2
  simp_all
theorem FInvU.waits {F : Nat → Fact} {listed : Array Bool} {vs : Nat → Value} {a : Act} {w : World} (h : FInvU ops a0 S U kill F listed vs a w) {i : Nat} (hun : listed.getD i true = false) :
    ∀ (n k : Nat), waitsT ops n k i = true → listed.getD k true = false
  | 0, k, hw => by
    have : k = i := by simpa [waitsT] using hw
    rw [this]; exact hun
  | n + 1, k, hw => by
    unfold waitsT at hw
    rw [Bool.or_eq_true] at hw
    rcases hw with hw | hw
    · have : k = i := by simpa using hw
      rw [this]; exact hun
    · cases ho : ops[k]? with
      | none => simp [ho] at hw
      | some o =>
        simp only [ho] at hw
        obtain ⟨e, he, hb⟩ := Array.any_eq_true'.1 hw
        simp only [Bool.and_eq_true] at hb
        have h1 := FInvU.waits h hun n e.on hb.2
        have hlt := (Array.getElem?_eq_some_iff.1 ho).1
        cases hl : listed.getD k false with
        | false => exact getD_in (by rw [h.lsize]; exact hlt) hl
        | true =>
          have := h.closed k o ho hl e he hb.1
          rw [getD_both h1] at this
          cases this
/-- Where an operation looks, the state at hand and the state filled in order are alike. -/
theorem FInvU.alike {F : Nat → Fact} {listed : Array Bool} {vs : Nat → Value} {a : Act} {w : World} (hc : Chk ops ix) (h : FInvU ops a0 S U kill F listed vs a w)
    {i : Nat} {o : Oper} (ho : ops[i]? = some o) (hd : ∀ e ∈ o.after, Region.binds .any e = true → listed.getD e.on false = true) (hun : listed.getD i true = false) (t : Nat) (ht : t ∈ o.looksAt ops) :
    a.tmps[t]? = (fill vs 0 (ops.toList.take i) a0).tmps[t]? := by
  by_cases hx : ∃ (j : Nat) (oj : Oper), ops[j]? = some oj ∧ oj.dst = some t
  · obtain ⟨j, oj, hj, hdj⟩ := hx
    rcases hc.looks i o ho t ht j oj hj hdj with ⟨e, he, hb, rfl⟩ | ⟨hij, hwt⟩
    case inr =>
      have hnl := h.waits hun 30 j hwt
      rw [h.other t (fun j' oj' hj' hl' hd' => by
        by_cases hjj : j' = j
        · subst hjj; rw [getD_both hnl] at hl'; cases hl'
        · exact hc.dist j oj hj j' oj' hj' hjj t hdj hd')]
      rw [fill_other vs t _ _ _ (fun oj' hoj' hdj' => by
        obtain ⟨j', hj'⟩ := List.getElem?_of_mem hoj'
        have hlt' : j' < i := by
          rcases Nat.lt_or_ge j' i with hh | hh
          · exact hh
          · rw [List.getElem?_take_eq_none hh] at hj'; cases hj'
        rw [List.getElem?_take_of_lt hlt'] at hj'
        exact hc.dist j oj hj j' oj' (by simpa using hj') (by omega) t hdj hdj')]
    have hlt := hc.back i o ho e he hb
    by_cases hs : t < a0.tmps.size
    · rw [h.slot _ oj t hj (hd e he hb) hdj hs, fill_at vs t _ 0 a0 e.on oj (by rw [List.getElem?_take_of_lt hlt]; simpa using hj) hdj hs (fun j' o' h1 h2 =>
        hc.dist e.on oj hj j' o' (by
          have : j' < i := by
            rcases Nat.lt_or_ge j' i with hh | hh
            · exact hh
            · rw [List.getElem?_take_eq_none hh] at h1; cases h1
          rw [List.getElem?_take_of_lt this] at h1; simpa using h1) h2 t hdj)]
      simp
    · rw [Array.getElem?_eq_none (by rw [h.size]; omega), Array.getElem?_eq_none (by rw [fill_size]; omega)]
  · rw [h.other t (fun j oj hj _ hdj => hx ⟨j, oj, hj, hdj⟩), fill_other vs t _ _ _ (fun oj hoj hdj => by
      obtain ⟨j, hj⟩ := List.getElem?_of_mem (List.mem_of_mem_take hoj)
      exact hx ⟨j, oj, by simpa using hj, hdj⟩)]
theorem factsU_go (hks : chkKs ops kill ks = true) (hc : Chk ops ix) (hR : ∀ i j vs w w', i ≠ j → Region.waitsFor .any ops j i = false → kill j ≠ some i → R i w w' → (Fact.mk (ix.getD j []) (p j)).at vs w → (Fact.mk (ix.getD j []) (p j)).at vs w')
    (hU : ∀ i j w w', i ≠ j → Region.waitsFor .any ops i j = false → R i w w' → U j w → U j w')
    (hs : FStepsU P ops a0 S R U kill ks (fun i => ⟨ix.getD i [], p i⟩) 0 ops.toList)
    (hQ : ∀ vs w', (∀ j, j < ops.size → kill j = none → (Fact.mk (ix.getD j []) (p j)).at vs w') → S w' → Q .normal (fill vs 0 ops.toList a0) w') :
    ∀ (fuel : Nat) (listed : Array Bool) (LL : List Nat) (vs : Nat → Value) (a : Act) (w : World), (∀ i, i < ops.size → listed.getD i true = false → i ∈ LL) → LL.length ≤ fuel →
      FInvU ops a0 S U kill (fun i => ⟨ix.getD i [], p i⟩) listed vs a w → wpAny P .any ops Q fuel listed a w := by
  have fin : ∀ (listed : Array Bool) (vs : Nat → Value) (a : Act) (w : World), FInvU ops a0 S U kill (fun i => ⟨ix.getD i [], p i⟩) listed vs a w → Region.ready .any ops listed = [] → Q .normal a w := fun listed vs a w hi hr => by
    have hall : ∀ n j, j < n → j < ops.size → listed.getD j false = true := fun n => by
      induction n with
      | zero => intro j hj; omega
      | succ n ih =>
        intro j hj hlt
        by_cases hjn : j < n
        · exact ih j hjn hlt
        · have hjn' : j = n := by omega
          subst hjn'
          cases hl : listed.getD j false with
          | true => rfl
          | false =>
            have hun := getD_in (by rw [hi.lsize]; exact hlt) hl
            have ho : ops[j]? = some ops[j] := Array.getElem?_eq_getElem hlt
            have : j ∈ Region.ready .any ops listed := mem_ready.2 ⟨hun, ops[j], ho, fun e he hb => ih e.on (hc.back j _ ho e he hb) (by have := hc.back j _ ho e he hb; omega)⟩
            rw [hr] at this
            cases this
    rw [hi.filled hc (fun j hj => hall (j + 1) j (by omega) hj)]
    exact hQ vs w (fun j hj hkn => hi.facts j ops[j] (Array.getElem?_eq_getElem hj) (hall (j + 1) j (by omega) hj) (fun k hk => by rw [hkn] at hk; cases hk)) hi.s
  intro fuel
  induction fuel with
  | zero =>
    intro listed LL vs a w hLL hl hi
    have hr : Region.ready .any ops listed = [] := by
      rcases hx : Region.ready .any ops listed with _ | ⟨i, l⟩
      · rfl
      · have hm : i ∈ Region.ready .any ops listed := by rw [hx]; exact List.mem_cons_self ..
        obtain ⟨hun, o, ho, _⟩ := mem_ready.1 hm
        have := hLL i (Array.getElem?_eq_some_iff.1 ho).1 hun
        have hL0 : LL = [] := List.length_eq_zero_iff.1 (by omega)
        rw [hL0] at this
        cases this
    exact ⟨hr, fin listed vs a w hi hr⟩
  | succ fuel ih =>
    intro listed LL vs a w hLL hl hi
    refine ⟨fin listed vs a w hi, fun i hir => ?_⟩
    obtain ⟨hun, o, ho, hall⟩ := mem_ready.1 hir
    have hlt := (Array.getElem?_eq_some_iff.1 ho).1
    have hst := FStepsU.get P ops a0 S R U kill ks _ ops.toList 0 hs i o (by simpa using ho)
    rw [Nat.zero_add] at hst
    have hstep := hst vs w hi.s (hi.unl i o ho hun) (fun e he hb hkk => hi.facts e.on _ (Array.getElem?_eq_getElem (by have := hc.back i o ho e he hb; omega)) (hall e he hb) (fun k hk => by
      rcases hkk k hk with h9 | h9
      · rw [h9]; exact hun
      · have h8 := List.all_eq_true.1 hks _ h9
        simp only [hk] at h8
        exact hi.waits hun 30 k h8))
    have hal := hi.alike hc ho hall hun
    have hex : execOp a.eval o = execOp (fill vs 0 (ops.toList.take i) a0).eval o := execOp_congr o (hc.sel i o ho) fun x hx => by
      cases x with
      | tmp t =>
        have ht : t ∈ o.looksAt ops := List.mem_append_left _ (List.mem_filterMap.2 ⟨.tmp t, by simpa using hx, rfl⟩)
        have := hal t ht
        simp only [Act.eval, Array.getD_eq_getD_getElem?, this]
      | _ => rfl
    have hwa : Region.wanted o (yielded ops a.tmps) = Region.wanted o (yielded ops (fill vs 0 (ops.toList.take i) a0).tmps) := by
      unfold Region.wanted
      cases hg : o.guard with
      | none => rfl
      | some g =>
        obtain ⟨g, want⟩ := g
        have : yielded ops a.tmps g = yielded ops (fill vs 0 (ops.toList.take i) a0).tmps g := by
          unfold yielded
          cases hgd : (ops[g]?).bind (·.dst) with
          | none => rfl
          | some t =>
            have ht : t ∈ o.looksAt ops := List.mem_append_right _ (by simp [hg, hgd])
            simp only [Option.bind_some, hal t ht]
        simp only [this]
    -- one operation's value lands
    have land : ∀ (u : Value) (w' : World), FPostU a0 S (R i) ⟨ix.getD i [], p i⟩ i o.dst vs w ((fill vs 0 (ops.toList.take i) a0).put o.dst u) w' →
        wpAny P .any ops Q fuel (listed.setIfInBounds i true) (a.put o.dst u) w' := fun u w' ⟨_, hf, hS, hRw⟩ => by
      refine ih _ (LL.erase i) (fun j => if j = i then got ((fill vs 0 (ops.toList.take i) a0).put o.dst u) o.dst else vs j) _ _ (fun j hj hjl => ?_) ?_ ⟨?_, ?_, ?_, ?_, ?_, ?_, hS, ?_, ?_⟩
      · by_cases hij : i = j
        · subst hij
          have h0 : i < listed.size := by rw [hi.lsize]; exact hlt
          simp [h0] at hjl
        · rw [getD_set_ne true hij] at hjl
          exact (List.mem_erase_of_ne (Ne.symm hij)).2 (hLL j hj hjl)
      · rw [List.length_erase_of_mem (hLL i hlt hun)]; omega
      · simp [hi.lsize]
      · intro j oj hj hl' e he hb
        by_cases hij : i = j
        · subst hij
          have : oj = o := Option.some.inj (hj.symm.trans ho)
          subst this
          exact getD_set_true (hall e he hb)
        · rw [getD_set_ne false hij] at hl'
          exact getD_set_true (hi.closed j oj hj hl' e he hb)
      · rw [put_size, hi.size]
      · rw [put_defers, hi.defers]
      · intro j oj d hj hl' hd hds
        by_cases hij : i = j
        · subst hij
          have : oj = o := Option.some.inj (hj.symm.trans ho)
          subst this
          simp only [if_true, hd, got]
          rw [put_same _ _ _ (by rw [hi.size]; exact hds)]
          have h9 := put_same (fill vs 0 (ops.toList.take i) a0) d u (by rw [fill_size]; exact hds)
          simp only [Array.getD_eq_getD_getElem?, h9, Option.getD_some]
        · rw [getD_set_ne false hij] at hl'
          rw [put_other _ _ _ _ (fun hdo => hc.dist j oj hj i o ho hij d hd hdo), hi.slot j oj d hj hl' hd hds]
          simp [Ne.symm hij]
      · intro t ht
        have h1 : o.dst ≠ some t := ht i o ho (by
          have h0 : i < listed.size := by rw [hi.lsize]; exact hlt
          simp [h0])
        rw [put_other _ _ _ _ h1]
        exact hi.other t fun j oj hj hl' => ht j oj hj (getD_set_true hl')
      · intro j oj hj hl'
        by_cases hij : i = j
        · subst hij
          have h0 : i < listed.size := by rw [hi.lsize]; exact hlt
          simp [h0] at hl'
        · rw [getD_set_ne true hij] at hl'
          refine hU i j w w' hij ?_ hRw (hi.unl j oj hj hl')
          cases hwf : Region.waitsFor .any ops i j with
          | false => rfl
          | true =>
            obtain ⟨oi, hoi, e, he, hb, rfl⟩ := Region.waitsFor_spec hwf
            have : oi = o := Option.some.inj (hoi.symm.trans ho)
            subst this
            have := hall e he hb
            rw [getD_both hl'] at this
            cases this
      · intro j oj hj hl' hkl
        by_cases hij : i = j
        · subst hij; exact hf
        · rw [getD_set_ne false hij] at hl'
          have hwn : Region.waitsFor .any ops j i = false := by
            cases hwf : Region.waitsFor .any ops j i with
            | false => rfl
            | true =>
              obtain ⟨oj', hoj, e, he, hb, rfl⟩ := Region.waitsFor_spec hwf
              have : oj' = oj := Option.some.inj (hoj.symm.trans hj)
              subst this
              have := hi.closed j oj' hj hl' e he hb
              rw [getD_both hun] at this
              cases this
          have hkn : kill j ≠ some i := by
            intro hk
            have h0 : i < listed.size := by rw [hi.lsize]; exact hlt
            have := hkl i hk
            simp [h0] at this
          have hkk : ∀ k, kill j = some k → listed.getD k true = false := by
            intro k hk
            by_cases hik : i = k
            · subst hik; exact hun
            · have := hkl k hk
              rwa [getD_set_ne true hik] at this
          refine Fact.at_congr _ (fun k hk => ?_) (hR i j vs w w' hij hwn hkn hRw (hi.facts j oj hj hl' hkk))
          have hki : k ≠ i := fun hki => by
            subst hki
            rcases hc.ixs j oj hj k hk with h1 | ⟨e, he, hb, rfl⟩
            · exact hij h1
            · have := hi.closed j oj hj hl' e he hb
              rw [getD_both hun] at this
              cases this
          simp [hki]
    unfold wpOp
    simp only [ho]
    simp only [wpList] at hstep
    rw [hwa]
    split
    · rename_i hw
      simp only [hw, if_true] at hstep
      rcases hstep with hstep | ⟨_, _, _, hf⟩
      case inr => exact hf.elim
      refine .inl ?_
      unfold Oper.wp at *
      rw [hex]
      generalize (execOp (fill vs 0 (ops.toList.take i) a0).eval o).run P w = r at *
      cases r with
      | ok n w' =>
        cases n <;> simp only [Oper.upon] at hstep ⊢
        case value u => exact land u w' hstep
        case skip => exact land _ w' hstep
        case defer d =>
          have := hstep.1
          rw [put_defers, fill_defers] at this
          exact absurd (congrArg List.length this) (by simp)
        case enter f args =>
          refine Calls.mono hstep fun e w'' he => ?_
          cases e with
          | returned u => exact land u w'' he
          | panicked c => exact he.elim
          | outgrown => obtain ⟨_, _, hf⟩ := he; exact hf.elim
        case row row args => exact Rows.mono hstep fun u w'' he => land u w'' he
      | halt x w' =>
        cases x <;> simp only [Oper.upon] at hstep ⊢
    · rename_i hw
      simp only [hw, Bool.false_eq_true, if_false] at hstep
      exact land _ w hstep
/-- A region that draws its order, by facts. -/
theorem wp_region_factsU {id : Nat} {a : Act} {w : World} (ix : List (List Nat)) (S : World → Prop) (R : Nat → World → World → Prop) (U : Nat → World → Prop) (kill : Nat → Option Nat) (p : Nat → (Nat → Value) → World → Prop) (ks : List (Nat × Nat) := [])
    (hm : P.follows .mixedOrders = true) (hc : chk ops ix = true) (hS : S w.drew)
    (hR : ∀ i j vs w w', i ≠ j → Region.waitsFor .any ops j i = false → kill j ≠ some i → R i w w' → (Fact.mk (ix.getD j []) (p j)).at vs w → (Fact.mk (ix.getD j []) (p j)).at vs w')
    (hU0 : ∀ j, U j w.drew) (hU : ∀ i j w w', i ≠ j → Region.waitsFor .any ops i j = false → R i w w' → U j w → U j w')
    (hs : FStepsU P ops a S R U kill ks (fun i => ⟨ix.getD i [], p i⟩) 0 ops.toList)
    (hQ : ∀ vs w', (∀ j, j < ops.size → kill j = none → (Fact.mk (ix.getD j []) (p j)).at vs w') → S w' → Q .normal (fill vs 0 ops.toList a) w') (hks : chkKs ops kill ks = true := by kernel_rfl) : (Code.region id ops true).wp P Q a w := by
  refine wp_region_any hm (factsU_go hks (chk_spec hc) hR hU hs hQ ops.size _ (List.range ops.size) (fun _ => undef) a _ (fun i hi _ => List.mem_range.2 hi) (by simp) ⟨by simp, ?_, rfl, rfl, ?_, fun _ _ => rfl, hS, fun j _ _ _ => hU0 j, ?_⟩)
  · intro j oj _ hl; rw [getD_replicate_false] at hl; cases hl
  · intro j o d _ hl; rw [getD_replicate_false] at hl; cases hl
  · intro j o _ hl _; rw [getD_replicate_false] at hl; cases hl
end
end Go.Cour
