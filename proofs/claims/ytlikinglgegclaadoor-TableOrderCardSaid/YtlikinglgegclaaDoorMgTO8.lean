import Derived.Deep.MidRow
import Derived.Test.YtlikinglgegclaaDoorMgTO0
import Derived.Test.YtlikinglgegclaaDoorMgTO1
import Derived.Test.YtlikinglgegclaaDoorMgTO2
import Derived.Test.YtlikinglgegclaaDoorMgTO3
import Derived.Test.YtlikinglgegclaaDoorMgTO4
import Derived.Test.YtlikinglgegclaaDoorMgTO5
import Derived.Test.YtlikinglgegclaaDoorMgTO6
import Derived.Test.YtlikinglgegclaaDoorMgTO7
set_option linter.unusedSimpArgs false
set_option linter.unusedVariables false
open List (getElem_toArray getElem_cons_zero getElem_cons_succ)
/- Steps over memory that is a list of things side by side; drawn regions whose worlds stay letters. -/
namespace Go.Cour
open Go.RowKit
section
variable {P : Program} {ops : Array Oper} {N : Act → World → Prop} {T : World → Prop}
/-- A region that draws its order, from any world of which T holds. -/
theorem wp_region_L {id : Nat} {a : Act} {w : World} {Q : Exit → Act → World → Prop} (T : World → Prop) (hm : P.follows .mixedOrders = true) (hc : chkT ops = true) (hT : T w.drew) (h : ∀ w', T w' → wpT P ops (fun a' w' => Q .normal a' w') T (List.range ops.size) a w') : (Code.region id ops true).wp P Q a w :=
  wp_region_T T hm hc hT (h _ hT)
/-- Behind an operation that acts: T holds still. -/
def OnT (P : Program) (ops : Array Oper) (N : Act → World → Prop) (T : World → Prop) (rest : List Nat) (a : Act) (ex : Exit) (a' : Act) (w' : World) : Prop := ex = .normal ∧ a'.defers = a.defers ∧ T w' ∧ ∀ w'', T w'' → wpT P ops N T rest a' w''
/-- Behind one that stands in one order with all others: another fact may hold. -/
def OnX (P : Program) (ops : Array Oper) (N : Act → World → Prop) (rest : List Nat) (a : Act) (ex : Exit) (a' : Act) (w' : World) : Prop := ex = .normal ∧ a'.defers = a.defers ∧ ∃ T' : World → Prop, T' w' ∧ ∀ w'', T' w'' → wpT P ops N T' rest a' w''
theorem OnT.mk {rest : List Nat} {a a' : Act} {w' : World} (hd : a'.defers = a.defers) (h : T w') (h2 : ∀ w'', T w'' → wpT P ops N T rest a' w'') : OnT P ops N T rest a .normal a' w' := ⟨rfl, hd, h, h2⟩
theorem OnX.mk {rest : List Nat} {a a' : Act} {w' : World} (T' : World → Prop) (hd : a'.defers = a.defers) (h : T' w') (h2 : ∀ w'', T' w'' → wpT P ops N T' rest a' w'') : OnX P ops N rest a .normal a' w' := ⟨rfl, hd, T', h, h2⟩
theorem wpT_actL {i : Nat} {o : Oper} {rest : List Nat} {a : Act} {w : World} (hi : ops[i]? = some o) (hk : readK o.op = false) (h : wpList P ops (OnT P ops N T rest a) [o] a w) : wpT P ops N T (i :: rest) a w := by
  simp only [wpT, hi]
  rw [if_neg (by rw [hk]; decide)]
  refine (V1_of (K := fun a' w' => T w' ∧ ∀ w'', T w'' → wpT P ops N T rest a' w'') h).mono fun u w' hu => ?_
  split
  · exact ⟨T, hu.1, hu.2 _ hu.1⟩
  · exact ⟨hu.1, hu.2 _ hu.1⟩
theorem wpT_totL {i : Nat} {o : Oper} {rest : List Nat} {a : Act} {w : World} (hi : ops[i]? = some o) (hk : readK o.op = false) (ht : totB ops i = true) (h : wpList P ops (OnX P ops N rest a) [o] a w) : wpT P ops N T (i :: rest) a w := by
  simp only [wpT, hi]
  rw [if_neg (by rw [hk]; decide)]
  refine (V1_of (K := fun a' w' => ∃ T' : World → Prop, T' w' ∧ ∀ w'', T' w'' → wpT P ops N T' rest a' w'') h).mono fun u w' hu => ?_
  obtain ⟨T', h1, h2⟩ := hu
  rw [if_pos ht]; exact ⟨T', h1, h2 _ h1⟩
end
section
variable {P : Program} {ops : Array Oper} {rest : List Oper} {o : Oper} {a : Act} {w w0 : World} {Q : Exit → Act → World → Prop} {F : Nat → Prop} {L : List Ent}
theorem listed_one {w : World} {g : Nat} {t : TypeId} {cs : List Value} (h : Blk w g t cs) (j : Nat) (v : Value) : (w.setCells g j [v]) = w.setCell ⟨g, j, none⟩ v := by
  simp [World.setCells]
theorem there_blk {w : World} {g : Nat} {t : TypeId} {cs : List Value} (h : Blk w g t cs) {j n : Nat} (hn : j + n ≤ cs.length) : w.there g j n := fun i hi => by
  refine ⟨?_, ?_⟩
  · rw [h.cell, List.getElem?_eq_getElem (by omega)]; rfl
  · exact h.frozen _
theorem setCells_blk {g : Nat} {t : TypeId} : ∀ (vs : List Value) {w : World} {cs : List Value} (j : Nat), Blk w g t cs → j + vs.length ≤ cs.length → Blk (w.setCells g j vs) g t (cs.take j ++ vs ++ cs.drop (j + vs.length))
  | [], w, cs, j, h, _ => by simpa [World.setCells] using h
  | v :: vs, w, cs, j, h, hl => by
    have h1 := h.set j v
    have h2 := setCells_blk vs (j + 1) h1 (by simp at hl ⊢; omega)
    simp only [World.setCells]
    have e : (cs.set j v).take (j + 1) ++ vs ++ (cs.set j v).drop (j + 1 + vs.length) = cs.take j ++ (v :: vs) ++ cs.drop (j + (v :: vs).length) := by
      simp only [List.length_cons] at hl
      rw [List.drop_set_of_lt (by omega), List.take_succ_eq_append_getElem (by simp; omega), List.getElem_set_self, List.take_set_of_le (Nat.le_refl _)]
      simp [Nat.add_assoc, Nat.add_comm 1]
    rw [e] at h2
    exact h2
theorem setCells_upd {g : Nat} : ∀ (vs : List Value) (w : World) (j : Nat), Upd (fun k => k = g) w (w.setCells g j vs)
  | [], w, j => Upd.refl _ _
  | v :: vs, w, j => by
    simp only [World.setCells]
    exact ((Upd.setCell w ⟨g, j, none⟩ v).mono fun _ _ hk => hk).trans (setCells_upd vs _ (j + 1)) fun _ _ hk => hk
theorem HS.setCells (h : HS F w0 w L) (i : Nat) {g : Nat} {t : TypeId} {cs : List Value} (hi : L[i]? = some (.blk g t cs)) (j : Nat) (vs : List Value) (hl : j + vs.length ≤ cs.length) : HS F w0 (w.setCells g j vs) (L.set i (.blk g t (cs.take j ++ vs ++ cs.drop (j + vs.length)))) :=
  h.upd1 i hi (setCells_upd vs w j) _ (setCells_blk vs j (h.blk i hi) hl) fun k hk => .inl hk
/-- A cell stored. -/
theorem hs_store1 (hS : HS F w0 w L) (i : Nat) {g : Nat} {t : TypeId} {cs : List Value} (hi : L[i]? = some (.blk g t cs)) (hw : Region.wanted o (yielded ops a.tmps) = true) (ty : TypeId) (x y : Operand) (ho : o.op = .store ty x y)
    (j : Nat) (hx : a.eval x = .pointer (some ⟨g, j, none⟩)) (v : Value) (hv : a.eval y = v) (h1 : v.oneCell' = true) (hs : (P.info? ty).map (·.size) = some 1) (hj : j < cs.length) (d : Option Tmp) (hd : o.dst = d)
    (h : ∀ w', HS F w0 w' (L.set i (.blk g t (cs.set j v))) → wpList P ops Q rest (a.put d undef) w') : wpList P ops Q (o :: rest) a w := by
  subst hd
  refine wpList_step fun K hK => ?_
  rw [if_pos hw]
  have hc : v.cells = #[v] := by cases v <;> first | rfl | cases h1
  have hb := hS.blk i hi
  have hcell : w.cell? ⟨g, j, none⟩ = some cs[j] := by rw [hb.cell, List.getElem?_eq_getElem hj]
  have hfz := hb.frozen j
  have hrun : (storeVar ty ⟨g, j, none⟩ v).run P w = .ok () (w.setCell ⟨g, j, none⟩ v) := by
    cases hq : P.info? ty with
    | none => simp [hq] at hs
    | some z =>
      have hz : z.size = 1 := by simpa [hq] using hs
      have := run_storeVar_mid (P := P) w g j ty #[v] (there_blk hb (by simp; omega)) (by simp [hq, hz]) (by simpa using h1)
      have h2 : storeVar ty ⟨g, j, none⟩ v = storeVar ty ⟨g, j, none⟩ (.agg #[v]) := by
        have e1 : (Value.agg #[v]).cells = #[v] := rfl
        unfold storeVar
        rw [hc, e1]
      rw [h2, this, listed_one hb]
  unfold Oper.wp execOp
  simp only [ho, hx, hv, Instr.storeAt, Instr.sureAddr, Sem.run_bind, Sem.run_pure, Result.andThen_ok, hrun]
  exact hK _ _ (h _ (hS.setCell i hi j v))
/-- Cells stored, a whole array or struct. -/
theorem hs_storeN (hS : HS F w0 w L) (i : Nat) {g : Nat} {t : TypeId} {cs : List Value} (hi : L[i]? = some (.blk g t cs)) (hw : Region.wanted o (yielded ops a.tmps) = true) (ty : TypeId) (x y : Operand) (ho : o.op = .store ty x y)
    (j : Nat) (hx : a.eval x = .pointer (some ⟨g, j, none⟩)) (vs : List Value) (hv : a.eval y = .agg vs.toArray) (h1 : ∀ v ∈ vs, v.oneCell' = true) (n : Nat) (hs : (P.info? ty).map (·.size) = some n) (hn : vs.length = n) (hj : j + n ≤ cs.length) (d : Option Tmp) (hd : o.dst = d)
    (h : ∀ w', HS F w0 w' (L.set i (.blk g t (cs.take j ++ vs ++ cs.drop (j + n)))) → wpList P ops Q rest (a.put d undef) w') : wpList P ops Q (o :: rest) a w := by
  subst hd hn
  refine wpList_step fun K hK => ?_
  rw [if_pos hw]
  exact wp_store_mid ty x y ho g j vs.toArray hx hv (by simpa using there_blk (hS.blk i hi) hj) (by simpa using hs) (all_oneCell_toArray h1) (hK _ _ (h _ (hS.setCells i hi j vs hj)))
/-- Cells loaded: an array or a struct, whole. -/
theorem hs_loadN (hS : HS F w0 w L) (i : Nat) {g : Nat} {t : TypeId} {cs : List Value} (hi : L[i]? = some (.blk g t cs)) (hw : Region.wanted o (yielded ops a.tmps) = true) (ty : TypeId) (x : Operand) (ho : o.op = .load ty x)
    (j : Nat) (hx : a.eval x = .pointer (some ⟨g, j, none⟩)) (vs : List Value) (hc : ∀ m v, vs[m]? = some v → cs[j + m]? = some v) (n : Nat) (hs : (P.info? ty).map (·.size) = some n) (hn : vs.length = n) (b : TypeDesc) (hu : P.underlying ty = some b) (hb : b.isRow = true) (d : Option Tmp) (hd : o.dst = d)
    (h : wpList P ops Q rest (a.put d (.agg vs.toArray)) w) : wpList P ops Q (o :: rest) a w := by
  subst hd hn
  refine wpList_step fun K hK => ?_
  rw [if_pos hw]
  exact wp_load_mid ty x ho g j hx vs b (fun m v hv => by rw [(hS.blk i hi).cell]; exact hc m v hv) hu hb hs (hK _ _ h)
/-- A whole block stored anew. -/
theorem hs_storeW (hS : HS F w0 w L) (i : Nat) {g : Nat} {t : TypeId} {cs : List Value} (hi : L[i]? = some (.blk g t cs)) (hw : Region.wanted o (yielded ops a.tmps) = true) (ty : TypeId) (x y : Operand) (ho : o.op = .store ty x y)
    (hx : a.eval x = .pointer (some ⟨g, 0, none⟩)) (vs : List Value) (hv : a.eval y = .agg vs.toArray) (h1 : ∀ v ∈ vs, v.oneCell' = true) (n : Nat) (hs : (P.info? ty).map (·.size) = some n) (hn : vs.length = n) (hc : cs.length = n) (d : Option Tmp) (hd : o.dst = d)
    (h : ∀ w', HS F w0 w' (L.set i (.blk g t vs)) → wpList P ops Q rest (a.put d undef) w') : wpList P ops Q (o :: rest) a w := by
  refine hs_storeN hS i hi hw ty x y ho 0 hx vs hv h1 n hs hn (by omega) d hd fun w' hS' => h w' ?_
  rw [List.take_zero, List.nil_append, Nat.zero_add, List.drop_eq_nil_of_le (by omega), List.append_nil] at hS'
  exact hS'
/-- A whole block loaded. -/
theorem hs_loadW (hS : HS F w0 w L) (i : Nat) {g : Nat} {t : TypeId} {vs : List Value} (hi : L[i]? = some (.blk g t vs)) (hw : Region.wanted o (yielded ops a.tmps) = true) (ty : TypeId) (x : Operand) (ho : o.op = .load ty x)
    (hx : a.eval x = .pointer (some ⟨g, 0, none⟩)) (n : Nat) (hs : (P.info? ty).map (·.size) = some n) (hn : vs.length = n) (b : TypeDesc) (hu : P.underlying ty = some b) (hb : b.isRow = true) (d : Option Tmp) (hd : o.dst = d)
    (h : wpList P ops Q rest (a.put d (.agg vs.toArray)) w) : wpList P ops Q (o :: rest) a w :=
  hs_loadN hS i hi hw ty x ho 0 hx vs (fun m v hv => by rw [Nat.zero_add]; exact hv) n hs hn b hu hb d hd h
end
end Go.Cour
/- A region that draws its order: reads; soft acts (they make memory, and leave all that is there); hard ones. -/
namespace Go.Cour
open Go.RowKit
theorem mem_iff {w : World} : ∀ {L : List Ent}, Mem w L ↔ (∀ e ∈ L, e.p w) ∧ L.Pairwise (fun e f => ∀ k, e.F k → ¬ f.F k)
  | [] => by simp [Mem]
  | e :: L => by
    simp only [Mem, mem_iff, List.mem_cons, List.pairwise_cons, forall_eq_or_imp]
    constructor
    · rintro ⟨h1, h2, h3, h4⟩; exact ⟨⟨h1, h3⟩, h2, h4⟩
    · rintro ⟨⟨h1, h3⟩, h2, h4⟩; exact ⟨h1, h2, h3, h4⟩
theorem Mem.perm {w : World} {L L' : List Ent} (h : Mem w L) (hp : L.Perm L') : Mem w L' := by
  rw [mem_iff] at h ⊢
  exact ⟨fun e he => h.1 e (hp.mem_iff.2 he), hp.pairwise h.2 fun {e f} hef k hf he => hef k he hf⟩
section
variable {F : Nat → Prop} {w0 w w' : World} {L L' E : List Ent}
theorem HS.perm (h : HS F w0 w L) (hp : L.Perm L') : HS F w0 w L' := ⟨h.upd, h.mem.perm hp, fun e he => h.own e (hp.mem_iff.2 he)⟩
theorem HS.sub (h : HS F w0 w L) (hs : L'.Sublist L) : HS F w0 w L' :=
  ⟨h.upd, mem_iff.2 ⟨fun e he => (mem_iff.1 h.mem).1 e (hs.mem he), (mem_iff.1 h.mem).2.sublist hs⟩, fun e he => h.own e (hs.mem he)⟩
theorem HS.drop2 (h : HS F w0 w (E ++ L)) : HS F w0 w L := h.sub (List.sublist_append_right _ _)
/-- New things beside all that is there. -/
theorem HS.beside (h : HS F w0 w L) (hb : Below w.heap.size w w') (hE : HS F w0 w' (E ++ L')) (hn : ∀ e ∈ E, ∀ k, e.F k → w.heap.size ≤ k) : HS F w0 w' (E ++ L) := by
  have h1 := h.below hb
  have hE1 := hE.sub (List.sublist_append_left E L')
  refine ⟨h1.upd, mem_iff.2 ⟨fun e he => ?_, List.pairwise_append.2 ⟨(mem_iff.1 hE1.mem).2, (mem_iff.1 h1.mem).2, fun e he f hf k hk hfk => ?_⟩⟩, fun e he => ?_⟩
  · rcases List.mem_append.1 he with he | he
    · exact (mem_iff.1 hE1.mem).1 e he
    · exact (mem_iff.1 h1.mem).1 e he
  · have := hn e he k hk; have := h.mem.lt hf k hfk; omega
  · rcases List.mem_append.1 he with he | he
    · exact hE1.own e he
    · exact h1.own e he
end
/-- A call that changes some of the things, and lays others in their place. -/
theorem HS.call {F G : Nat → Prop} {w0 w w' : World} {A B L : List Ent} (h : HS F w0 w (A ++ L)) (hc : HS G w w' B) (hG : ∀ k, G k → ∃ e ∈ A, e.F k) : HS F w0 w' (B ++ L) := by
  have hdis := (List.pairwise_append.1 (mem_iff.1 h.mem).2).2.2
  have hkeep : ∀ k, k < w.heap.size → ¬ G k → w'.heap[k]? = w.heap[k]? := hc.upd.block
  refine ⟨⟨hc.upd.os.trans h.upd.os, hc.upd.tape.trans h.upd.tape, hc.upd.output.trans h.upd.output, Nat.le_trans h.size hc.size, fun k hk hf => ?_⟩, mem_iff.2 ⟨fun e he => ?_, List.pairwise_append.2 ⟨(mem_iff.1 hc.mem).2, (mem_iff.1 h.drop2.mem).2, fun e he f hf k hk hfk => ?_⟩⟩, fun e he k hk => ?_⟩
  · refine (hkeep k (Nat.lt_of_lt_of_le hk h.size) fun hg => ?_).trans (h.upd.block k hk hf)
    obtain ⟨e, he, hek⟩ := hG k hg
    rcases h.own e (List.mem_append_left _ he) k hek with h1 | h1
    · exact hf h1
    · omega
  · rcases List.mem_append.1 he with he | he
    · exact (mem_iff.1 hc.mem).1 e he
    · refine e.kept ((mem_iff.1 h.mem).1 e (List.mem_append_right _ he)) fun k hk => hkeep k (h.mem.lt (List.mem_append_right _ he) k hk) fun hg => ?_
      obtain ⟨e', he', hek⟩ := hG k hg
      exact hdis e' he' e he k hek hk
  · rcases hc.own e he k hk with h1 | h1
    · obtain ⟨e', he', hek⟩ := hG k h1
      exact hdis e' he' f hf k hek hfk
    · have := h.mem.lt (List.mem_append_right _ hf) k hfk; omega
  · rcases List.mem_append.1 he with he | he
    · rcases hc.own e he k hk with h1 | h1
      · obtain ⟨e', he', hek⟩ := hG k h1
        exact h.own e' (List.mem_append_left _ he') k hek
      · exact .inr (Nat.le_trans h.size h1)
    · exact h.own e (List.mem_append_right _ he) k hk
/-- An operation's kind: 1 a soft act, 2 a hard one, 0 it reads. -/
def kdOf (sa hh : List Nat) (i : Nat) : Nat := if sa.contains i then 1 else if hh.contains i then 2 else 0
def okPair (sa hh : List Nat) (p i : Nat) : Bool := kdOf sa hh p == 0 || kdOf sa hh i == 0 || (kdOf sa hh p == 1 && kdOf sa hh i == 1)
section
variable (P : Program) (ops : Array Oper) (N : Act → World → Prop) (F : Nat → Prop) (w0 : World) (sa hh : List Nat) (K : Nat → Value → List Ent → Prop)
/-- What a soft act does. -/
def SoftQ (i : Nat) (L0 : List Ent) (w' : World) (u : Value) (w'' : World) : Prop := ∃ E, K i u E ∧ HS F w0 w'' (E ++ L0) ∧ Below w'.heap.size w' w'' ∧ ∀ e ∈ E, ∀ k, e.F k → w'.heap.size ≤ k
/-- The operations walked in the order of the text. -/
def wpS : List Ent → List Ent → List Nat → Act → Prop
  | L0, σ, [], a => ∀ w, HS F w0 w (σ ++ L0) → N a w
  | L0, σ, i :: rest, a => match ops[i]? with
    | none => False
    | some o =>
      if kdOf sa hh i = 0 then ∃ v, (∀ w', HS F w0 w' L0 → Rd1 P ops o a w' v) ∧ wpS L0 σ rest (a.put o.dst v)
      else if kdOf sa hh i = 1 then (∀ w', HS F w0 w' L0 → V1 P ops o a w' (SoftQ F w0 K i L0 w')) ∧ ∀ u E, K i u E → (∃ w, HS F w0 w (E ++ σ ++ L0)) → wpS L0 (E ++ σ) rest (a.put o.dst u)
      else ∀ w, HS F w0 w (σ ++ L0) → V1 P ops o a w fun u w' => if totB ops i then ∃ L1 σ', HS F w0 w' (σ' ++ L1) ∧ wpS L1 σ' rest (a.put o.dst u) else ∃ σ', HS F w0 w' (σ' ++ L0) ∧ wpS L0 σ' rest (a.put o.dst u)
def chkSOne (i : Nat) : Bool :=
  match ops[i]? with
  | none => true
  | some o => (o.after.all fun e => !Region.binds .any e || decide (e.on < i)) && !isSelect o.op &&
    (List.range i).all fun p => dirW ops i p || (match ops[p]? with | some q => q.apart ops o && okPair sa hh p i | none => true)
def chkS : Bool := (List.range ops.size).all (chkSOne ops sa hh)
structure ChkS : Prop where
  back : ∀ (i : Nat) (o : Oper), ops[i]? = some o → ∀ e ∈ o.after, Region.binds .any e = true → e.on < i
  sel : ∀ (i : Nat) (o : Oper), ops[i]? = some o → noSel o
  ahead : ∀ (i : Nat) (o : Oper), ops[i]? = some o → ∀ p q, p < i → ops[p]? = some q → waitsT ops 200 i p = true ∨ (q.apart ops o = true ∧ okPair sa hh p i = true)
end
section
variable {P : Program} {ops : Array Oper} {N : Act → World → Prop} {F : Nat → Prop} {w0 : World} {sa hh : List Nat} {K : Nat → Value → List Ent → Prop}
theorem chkS_spec (h : chkS ops sa hh = true) : ChkS ops sa hh := by
  have h1 : ∀ i o, ops[i]? = some o → ((o.after.all fun e => !Region.binds .any e || decide (e.on < i)) = true ∧ isSelect o.op = false) ∧
    ((List.range i).all fun p => dirW ops i p || (match ops[p]? with | some q => q.apart ops o && okPair sa hh p i | none => true)) = true := fun i o ho => by
    have := List.all_eq_true.1 h i (List.mem_range.2 (Array.getElem?_eq_some_iff.1 ho).1)
    unfold chkSOne at this
    simp only [ho, Bool.and_eq_true, Bool.not_eq_true'] at this
    exact this
  refine ⟨fun i o ho e he hb => ?_, fun i o ho cs b hs => ?_, fun i o ho p q hp hq => ?_⟩
  · have := Array.all_eq_true'.1 (h1 i o ho).1.1 e he
    simpa [hb] using this
  · have := (h1 i o ho).1.2
    rw [hs] at this
    simp [isSelect] at this
  · have := List.all_eq_true.1 (h1 i o ho).2 p (List.mem_range.2 hp)
    simp only [hq, Bool.or_eq_true, Bool.and_eq_true] at this
    rcases this with h2 | h2
    · exact .inl (dirW_waits h2)
    · exact .inr h2
theorem wpS_perm : ∀ (l : List Nat) {L0 σ σ' : List Ent} {a : Act}, wpS P ops N F w0 sa hh K L0 σ l a → σ.Perm σ' → wpS P ops N F w0 sa hh K L0 σ' l a
  | [], L0, σ, σ', a, h, hp => fun w hw => h w (hw.perm ((hp.symm).append_right _))
  | i :: rest, L0, σ, σ', a, h, hp => by
    simp only [wpS] at h ⊢
    cases ho : ops[i]? with
    | none => simp only [ho] at h
    | some o =>
      simp only [ho] at h ⊢
      split
      · rename_i h0
        rw [if_pos h0] at h
        obtain ⟨v, h1, h2⟩ := h
        exact ⟨v, h1, wpS_perm rest h2 hp⟩
      · rename_i h0
        rw [if_neg h0] at h
        split
        · rename_i h1
          rw [if_pos h1] at h
          refine ⟨h.1, fun u E hK ⟨w, hw⟩ => wpS_perm rest (h.2 u E hK ⟨w, hw.perm (((hp.symm).append_left E).append_right L0)⟩) (hp.append_left E)⟩
        · rename_i h1
          rw [if_neg h1] at h
          exact fun w hw => h w (hw.perm ((hp.symm).append_right _))
theorem wpS_pull (i : Nat) (o : Oper) (post : List Nat) (hi : ops[i]? = some o) (hso : noSel o) : ∀ (pre : List Nat) (L0 σ : List Ent) (a : Act), (∃ w, HS F w0 w (σ ++ L0)) → (pre ≠ [] → totB ops i = false) → (∀ j ∈ pre, totB ops j = false ∧ ∃ p, ops[j]? = some p ∧ p.apart ops o = true ∧ okPair sa hh j i = true ∧ noSel p) → wpS P ops N F w0 sa hh K L0 σ (pre ++ i :: post) a →
    wpS P ops N F w0 sa hh K L0 σ (i :: (pre ++ post)) a
  | [], L0, σ, a, _, _, _, h => h
  | j :: pre, L0, σ, a, hw, hti, hp, h => by
    obtain ⟨htj, p, hj, hap, hok, hsp⟩ := hp j (List.mem_cons_self ..)
    have hti' := hti (by simp)
    obtain ⟨s1, s2, s3⟩ := Oper.apart_spec hap
    have s4 : ∀ t, o.dst = some t → p.dst ≠ some t := fun t ht hpt => s2 t hpt ht
    have ih := fun σ a hw => wpS_pull i o post hi hso pre L0 σ a hw (fun _ => hti') (fun q hq => hp q (List.mem_cons_of_mem _ hq))
    simp only [List.cons_append, wpS, hj, hi, htj, hti', Bool.false_eq_true, if_false] at h ih ⊢
    obtain ⟨w, hw⟩ := hw
    have hwL := hw.drop2
    by_cases kp0 : kdOf sa hh j = 0
    · rw [if_pos kp0] at h
      obtain ⟨vp, hvp, h⟩ := h
      have h2 := ih σ _ ⟨w, hw⟩ h
      by_cases ko0 : kdOf sa hh i = 0
      · rw [if_pos ko0] at h2 ⊢
        obtain ⟨v, hv, h3⟩ := h2
        refine ⟨v, fun w' hw' => (Rd1.put vp s1 s2 hso).1 (hv w' hw'), ?_⟩
        rw [if_pos kp0]
        refine ⟨vp, fun w' hw' => (Rd1.put v s3 s4 hsp).2 (hvp w' hw'), ?_⟩
        rw [← Act.put_comm a vp v s2]; exact h3
      · rw [if_neg ko0] at h2 ⊢
        by_cases ko1 : kdOf sa hh i = 1
        · rw [if_pos ko1] at h2 ⊢
          refine ⟨fun w' hw' => (V1.put vp s1 hso).1 (h2.1 w' hw'), fun u E hK hx => ?_⟩
          rw [if_pos kp0]
          refine ⟨vp, fun w'' hw'' => (Rd1.put u s3 s4 hsp).2 (hvp w'' hw''), ?_⟩
          rw [← Act.put_comm a vp u s2]; exact h2.2 u E hK hx
        · rw [if_neg ko1] at h2 ⊢
          intro w1 hw1
          refine ((V1.put vp s1 hso).1 (h2 w1 hw1)).mono fun u w' ⟨σ', h3, h4⟩ => ⟨σ', h3, ?_⟩
          rw [if_pos kp0]
          refine ⟨vp, fun w'' hw'' => (Rd1.put u s3 s4 hsp).2 (hvp w'' hw''), ?_⟩
          rw [← Act.put_comm a vp u s2]; exact h4
    · rw [if_neg kp0] at h
      by_cases kp1 : kdOf sa hh j = 1
      · rw [if_pos kp1] at h
        obtain ⟨hv1, hk⟩ := h
        obtain ⟨u0, w1, E0, hK0, hE0, hb0, hn0⟩ := (hv1 w hwL).ex
        have hx0 : HS F w0 w1 (E0 ++ (σ ++ L0)) := hw.beside hb0 hE0 hn0
        have hx0' : ∃ w, HS F w0 w (E0 ++ σ ++ L0) := ⟨w1, by rw [List.append_assoc]; exact hx0⟩
        by_cases ko0 : kdOf sa hh i = 0
        · rw [if_pos ko0]
          have h5 := ih _ _ hx0' (hk u0 E0 hK0 hx0')
          rw [if_pos ko0] at h5
          obtain ⟨v0, hv0, _⟩ := h5
          refine ⟨v0, fun w' hw' => (Rd1.put u0 s1 s2 hso).1 (hv0 w' hw'), ?_⟩
          rw [if_neg kp0, if_pos kp1]
          refine ⟨fun w' hw' => (V1.put v0 s3 hsp).2 (hv1 w' hw'), fun u E hK hx => ?_⟩
          have h6 := ih _ _ hx (hk u E hK hx)
          rw [if_pos ko0] at h6
          obtain ⟨v, hv, h7⟩ := h6
          have hvv : a.put o.dst v = a.put o.dst v0 := ((Rd1.put u s1 s2 hso).1 (hv w hwL)).det ((Rd1.put u0 s1 s2 hso).1 (hv0 w hwL))
          rw [Act.put_comm a u v s2, hvv] at h7
          exact h7
        · rw [if_neg ko0]
          have ko1 : kdOf sa hh i = 1 := by
            unfold okPair at hok
            simp only [Bool.or_eq_true, Bool.and_eq_true, beq_iff_eq] at hok
            rcases hok with (h1 | h1) | h1
            · exact absurd h1 kp0
            · exact absurd h1 ko0
            · exact h1.2
          rw [if_pos ko1]
          have h5 := ih _ _ hx0' (hk u0 E0 hK0 hx0')
          rw [if_neg ko0, if_pos ko1] at h5
          refine ⟨fun w' hw' => (V1.put u0 s1 hso).1 (h5.1 w' hw'), fun v Eo hKo hxo => ?_⟩
          rw [if_neg kp0, if_pos kp1]
          refine ⟨fun w' hw' => (V1.put v s3 hsp).2 (hv1 w' hw'), fun u E hK ⟨w2, hw2⟩ => ?_⟩
          have hpm : (E ++ (Eo ++ σ)).Perm (Eo ++ (E ++ σ)) := by
            rw [← List.append_assoc, ← List.append_assoc]; exact List.perm_append_comm.append_right σ
          have hw3 : HS F w0 w2 (Eo ++ (E ++ σ) ++ L0) := hw2.perm (hpm.append_right L0)
          have hx : ∃ w, HS F w0 w (E ++ σ ++ L0) := ⟨w2, by rw [List.append_assoc Eo] at hw3; exact hw3.drop2⟩
          have h6 := ih _ _ hx (hk u E hK hx)
          rw [if_neg ko0, if_pos ko1] at h6
          have h7 := h6.2 v Eo hKo ⟨w2, hw3⟩
          rw [Act.put_comm a u v s2] at h7
          exact wpS_perm _ h7 hpm.symm
      · rw [if_neg kp1] at h
        have ko0 : kdOf sa hh i = 0 := by
          unfold okPair at hok
          simp only [Bool.or_eq_true, Bool.and_eq_true, beq_iff_eq] at hok
          rcases hok with (h1 | h1) | h1
          · exact absurd h1 kp0
          · exact h1
          · exact absurd h1.1 kp1
        rw [if_pos ko0]
        have h2 : ∀ w, HS F w0 w (σ ++ L0) → V1 P ops p a w fun u w' => ∃ σ', HS F w0 w' (σ' ++ L0) ∧ ∃ v, (∀ w'', HS F w0 w'' L0 → Rd1 P ops o a w'' v) ∧ wpS P ops N F w0 sa hh K L0 σ' (pre ++ post) ((a.put p.dst u).put o.dst v) := fun w1 hw1 => (h w1 hw1).mono fun u w' ⟨σ', h3, h4⟩ => by
          have h5 := ih _ _ ⟨w', h3⟩ h4
          rw [if_pos ko0] at h5
          obtain ⟨v, hv, h6⟩ := h5
          exact ⟨σ', h3, v, fun w'' hw'' => (Rd1.put u s1 s2 hso).1 (hv w'' hw''), h6⟩
        obtain ⟨u0, w1, σ0, hT0, v0, hv0, _⟩ := (h2 w hw).ex
        refine ⟨v0, hv0, ?_⟩
        rw [if_neg kp0, if_neg kp1]
        intro w2 hw2
        refine (V1.put v0 s3 hsp).2 ((h2 w2 hw2).mono fun u w' ⟨σ', h3, v, hv, h4⟩ => ⟨σ', h3, ?_⟩)
        rw [Act.put_comm a u v s2, (hv w' h3.drop2).det (hv0 w' h3.drop2)] at h4
        exact h4
theorem wpAny_S {Q : Exit → Act → World → Prop} (hN : ∀ a w, N a w → Q .normal a w) (hc : ChkS ops sa hh) : ∀ (fuel : Nat) (listed : Array Bool) (L0 σ : List Ent) (a : Act) (w : World), HS F w0 w (σ ++ L0) → listed.size = ops.size → Closed ops listed → (rem ops listed).length ≤ fuel →
    wpS P ops N F w0 sa hh K L0 σ (rem ops listed) a → wpAny P .any ops Q fuel listed a w := by
  have fin : ∀ (listed : Array Bool) (L0 σ : List Ent) (a : Act) (w : World), HS F w0 w (σ ++ L0) → listed.size = ops.size → Region.ready .any ops listed = [] → wpS P ops N F w0 sa hh K L0 σ (rem ops listed) a → Q .normal a w := fun listed L0 σ a w hw hl hr h => by
    have hall : ∀ n j, j < n → j < ops.size → listed.getD j false = true := fun n => by
      induction n with
      | zero => intro j hj; omega
      | succ n ih =>
        intro j hj hlt
        by_cases hjn : j < n
        · exact ih j hjn hlt
        · have hjn' : j = n := by omega
          subst hjn'
          cases hlj : listed.getD j false with
          | true => rfl
          | false =>
            have hun := getD_in (by rw [hl]; exact hlt) hlj
            have ho : ops[j]? = some ops[j] := Array.getElem?_eq_getElem hlt
            have : j ∈ Region.ready .any ops listed := mem_ready.2 ⟨hun, ops[j], ho, fun e he hb => ih e.on (hc.back j _ ho e he hb) (by have := hc.back j _ ho e he hb; omega)⟩
            rw [hr] at this
            cases this
    have hre : rem ops listed = [] := List.filter_eq_nil_iff.2 fun j hj => by
      have := hall (j + 1) j (by omega) (List.mem_range.1 hj)
      unfold unl
      cases h2 : listed.getD j true with
      | true => simp
      | false => rw [getD_both h2] at this; cases this
    rw [hre] at h
    exact hN _ _ (h w hw)
  intro fuel
  induction fuel with
  | zero =>
    intro listed L0 σ a w hT hl hcl hf h
    have hr : Region.ready .any ops listed = [] := by
      rcases hx : Region.ready .any ops listed with _ | ⟨i, l⟩
      · rfl
      · have hm : i ∈ Region.ready .any ops listed := by rw [hx]; exact List.mem_cons_self ..
        obtain ⟨hun, o, ho, _⟩ := mem_ready.1 hm
        have h1 : i ∈ rem ops listed := List.mem_filter.2 ⟨List.mem_range.2 (Array.getElem?_eq_some_iff.1 ho).1, by simp [unl, hun]⟩
        have h2 := List.length_eq_zero_iff.1 (Nat.le_zero.1 hf)
        rw [h2] at h1
        cases h1
    exact ⟨hr, fin listed L0 σ a w hT hl hr h⟩
  | succ fuel ih =>
    intro listed L0 σ a w hT hl hcl hf h
    refine ⟨fun hr => fin listed L0 σ a w hT hl hr h, fun i hir => ?_⟩
    obtain ⟨hun, o, ho, hall⟩ := mem_ready.1 hir
    have hlt := (Array.getElem?_eq_some_iff.1 ho).1
    have him : i ∈ rem ops listed := List.mem_filter.2 ⟨List.mem_range.2 hlt, by simp [unl, hun]⟩
    obtain ⟨s, t, hst⟩ := List.append_of_mem him
    have hpw : (s ++ i :: t).Pairwise (· < ·) := by
      rw [← hst]; exact List.Pairwise.filter _ List.pairwise_lt_range
    have hrem : rem ops (listed.setIfInBounds i true) = s ++ t := by
      rw [← filter_ne_mid hpw, ← hst]
      unfold rem
      rw [List.filter_filter]
      refine List.filter_congr fun j hj => ?_
      unfold unl
      by_cases hij : i = j
      · subst hij
        have h0 : i < listed.size := by rw [hl]; exact hlt
        simp [h0]
      · rw [getD_set_ne true hij]
        simp [Ne.symm hij]
    have hlate : ∀ k ∈ s, waitsT ops 200 i k = true → False := fun k hk hw => by
      have hki : k < i := (List.pairwise_append.1 hpw).2.2 k hk i (List.mem_cons_self ..)
      have hku : k ∈ rem ops listed := by rw [hst]; exact List.mem_append_left _ hk
      have hkun : listed.getD k true = false := by
        have := (List.mem_filter.1 hku).2
        simpa [unl] using this
      have : waitsT ops 200 i k = true := hw
      unfold waitsT at this
      rw [Bool.or_eq_true] at this
      rcases this with h3 | h3
      · have : i = k := by simpa using h3
        omega
      · simp only [ho] at h3
        obtain ⟨e, he, hb⟩ := Array.any_eq_true'.1 h3
        simp only [Bool.and_eq_true] at hb
        have h4 := hcl.waits hl 199 e.on k hb.2 (by have := hc.back i o ho e he hb.1; omega) (hall e he hb.1)
        rw [getD_both hkun] at h4
        cases h4
    have hpre : ∀ j ∈ s, totB ops j = false ∧ ∃ p, ops[j]? = some p ∧ p.apart ops o = true ∧ okPair sa hh j i = true ∧ noSel p := fun k hk => by
      have hki : k < i := (List.pairwise_append.1 hpw).2.2 k hk i (List.mem_cons_self ..)
      have hks : k < ops.size := by omega
      have hkp : ops[k]? = some ops[k] := Array.getElem?_eq_getElem hks
      refine ⟨?_, ops[k], hkp, ?_⟩
      · cases htk : totB ops k with
        | false => rfl
        | true => exact (hlate k hk ((totB_spec htk i hlt).2 hki)).elim
      · rcases hc.ahead i o ho k _ hki hkp with hw | ⟨h1, h2⟩
        · exact (hlate k hk hw).elim
        · exact ⟨h1, h2, hc.sel k _ hkp⟩
    have hti : s ≠ [] → totB ops i = false := fun hs => by
      cases hti : totB ops i with
      | false => rfl
      | true =>
        obtain ⟨k, hk⟩ := List.exists_mem_of_ne_nil s hs
        have hki : k < i := (List.pairwise_append.1 hpw).2.2 k hk i (List.mem_cons_self ..)
        exact (hlate k hk ((totB_spec hti k (by omega)).1 hki)).elim
    rw [hst] at h
    have hpull := wpS_pull i o t ho (hc.sel i o ho) s L0 σ a ⟨w, hT⟩ hti hpre h
    rw [← hrem] at hpull
    simp only [wpS, ho] at hpull
    have hcl' : Closed ops (listed.setIfInBounds i true) := fun j oj hj hl' e he hb => by
      by_cases hij : i = j
      · subst hij
        have : oj = o := Option.some.inj (hj.symm.trans ho)
        subst this
        exact getD_set_true (hall e he hb)
      · rw [getD_set_ne false hij] at hl'
        exact getD_set_true (hcl j oj hj hl' e he hb)
    have hlen : (rem ops (listed.setIfInBounds i true)).length ≤ fuel := by
      rw [hrem]; rw [hst] at hf; simp at hf ⊢; omega
    have next : ∀ (L1 σ' : List Ent) u w', HS F w0 w' (σ' ++ L1) → wpS P ops N F w0 sa hh K L1 σ' (rem ops (listed.setIfInBounds i true)) (a.put o.dst u) → wpAny P .any ops Q fuel (listed.setIfInBounds i true) (a.put o.dst u) w' := fun L1 σ' u w' hT' h' =>
      ih _ _ _ _ _ hT' (by simp [hl]) hcl' hlen h'
    unfold wpOp
    simp only [ho]
    by_cases ko0 : kdOf sa hh i = 0
    · rw [if_pos ko0] at hpull
      obtain ⟨v, hv, h2⟩ := hpull
      have h3 := hv w hT.drop2
      unfold Rd1 at h3
      split at h3 <;> rename_i hw
      · rw [if_pos hw]
        obtain ⟨u, h4, h5⟩ := h3
        refine .inl ?_
        unfold Oper.wp
        rw [h4]
        rw [← h5] at h2
        exact next L0 σ u w hT h2
      · rw [if_neg hw]
        rw [← h3] at h2
        exact next L0 σ _ w hT h2
    · rw [if_neg ko0] at hpull
      have hV : V1 P ops o a w fun u w' => ∃ L1 σ', HS F w0 w' (σ' ++ L1) ∧ wpS P ops N F w0 sa hh K L1 σ' (rem ops (listed.setIfInBounds i true)) (a.put o.dst u) := by
        by_cases ko1 : kdOf sa hh i = 1
        · rw [if_pos ko1] at hpull
          refine (hpull.1 w hT.drop2).mono fun u w' ⟨E, hK, hE, hb, hn⟩ => ?_
          have hx : HS F w0 w' (E ++ σ ++ L0) := by rw [List.append_assoc]; exact hT.beside hb hE hn
          exact ⟨L0, E ++ σ, hx, hpull.2 u E hK ⟨w', hx⟩⟩
        · rw [if_neg ko1] at hpull
          refine (hpull w hT).mono fun u w' hu => ?_
          split at hu
          · exact hu
          · obtain ⟨σ', h1, h2⟩ := hu; exact ⟨L0, σ', h1, h2⟩
      have nextA : ∀ u w', (∃ L1 σ', HS F w0 w' (σ' ++ L1) ∧ wpS P ops N F w0 sa hh K L1 σ' (rem ops (listed.setIfInBounds i true)) (a.put o.dst u)) → wpAny P .any ops Q fuel (listed.setIfInBounds i true) (a.put o.dst u) w' := fun u w' ⟨L1, σ', h1, h2⟩ => next L1 σ' u w' h1 h2
      unfold V1 at hV
      split at hV <;> rename_i hw
      · rw [if_pos hw]
        refine .inl ?_
        unfold Oper.wp
        revert hV
        cases (execOp a.eval o).run P w with
        | halt x w' => exact fun h => h.elim
        | ok n w' =>
          cases n <;> intro h <;> first | exact h.elim | exact nextA _ _ h | skip
          case enter f args =>
            refine Calls.mono h fun e w'' he => ?_
            obtain ⟨v, rfl, h1⟩ := he
            exact nextA v w'' h1
          case row row args => exact Rows.mono h fun u w'' hu => nextA u w'' hu
      · rw [if_neg hw]
        exact nextA _ w hV
/-- A region that draws its order. -/
theorem wp_region_S {id : Nat} {a : Act} {w : World} {Q : Exit → Act → World → Prop} (sa hh : List Nat) (K : Nat → Value → List Ent → Prop) {L0 : List Ent} (σ : List Ent) (hm : P.follows .mixedOrders = true) (hc : chkS ops sa hh = true) (h0 : HS F w0 w (σ ++ L0))
    (h : wpS P ops (fun a' w' => Q .normal a' w') F w0 sa hh K L0 σ (List.range ops.size) a) : (Code.region id ops true).wp P Q a w := by
  refine wp_region_any hm (wpAny_S (K := K) (N := fun a' w' => Q .normal a' w') (fun _ _ h => h) (chkS_spec hc) ops.size _ L0 σ a _ h0.drew (by simp) ?_ ?_ ?_)
  · intro j oj _ hl; rw [getD_replicate_false] at hl; cases hl
  · exact Nat.le_trans (List.length_filter_le _ _) (by simp)
  · have h1 : rem ops (Array.replicate ops.size false) = List.range ops.size := List.filter_eq_self.2 fun j hj => by
      simp [unl, Array.getD, List.mem_range.1 hj]
    rw [h1]; exact h
/-- One that reads. -/
theorem wpS_read {L0 σ : List Ent} {i : Nat} {o : Oper} {rest : List Nat} {a A : Act} (hi : ops[i]? = some o) (hk0 : kdOf sa hh i = 0) (hx : ∃ w, HS F w0 w L0) (hk : readK o.op = true) (h1 : ∀ w', HS F w0 w' L0 → wpList P ops (fun ex a' w'' => ex = .normal ∧ a' = A ∧ w'' = w') [o] a w') (h2 : wpS P ops N F w0 sa hh K L0 σ rest A) : wpS P ops N F w0 sa hh K L0 σ (i :: rest) a := by
  have hv : ∀ w', HS F w0 w' L0 → ∃ u, A = a.put o.dst u ∧ Rd1 P ops o a w' u := fun w' hw' => by
    have h := h1 w' hw'
    simp only [wpList] at h
    unfold Rd1
    split at h <;> rename_i hw
    · rcases h with h | ⟨_, _, _, hf, _⟩
      case inr => cases hf
      unfold Oper.wp at h
      cases hx : (execOp a.eval o).run P w' with
      | halt x w1 =>
        rw [hx] at h
        cases x <;> simp [Oper.upon] at h
      | ok n w1 =>
        obtain ⟨u, rfl⟩ := readK_value hk hx
        rw [hx] at h
        simp only [Oper.upon] at h
        obtain ⟨_, h3, h4⟩ := h
        subst h4
        exact ⟨u, h3.symm, by rw [if_pos hw]; exact ⟨u, rfl, rfl⟩⟩
    · exact ⟨undef, h.2.1.symm, by rw [if_neg hw]⟩
  obtain ⟨w, hw⟩ := hx
  obtain ⟨v, hA, _⟩ := hv w hw
  simp only [wpS, hi]
  rw [if_pos hk0]
  refine ⟨v, fun w' hw' => ?_, hA ▸ h2⟩
  obtain ⟨u, hu, hr⟩ := hv w' hw'
  have he : a.put o.dst u = a.put o.dst v := hu.symm.trans hA
  unfold Rd1 at *
  split at hr <;> rename_i hw
  · rw [if_pos hw]; obtain ⟨x, h3, h4⟩ := hr; exact ⟨x, h3, h4.trans he⟩
  · rw [if_neg hw]; exact hr.trans he
/-- What stands behind a soft act. -/
structure SoftP (F : Nat → Prop) (w0 : World) (K : Nat → Value → List Ent → Prop) (i : Nat) (L0 : List Ent) (t : Nat) (a : Act) (w : World) (ex : Exit) (a' : Act) (w' : World) : Prop where
  ex : ex = .normal
  defers : a'.defers = a.defers
  val : ∃ u E, a' = a.put (some t) u ∧ K i u E ∧ HS F w0 w' (E ++ L0) ∧ Below w.heap.size w w' ∧ ∀ e ∈ E, ∀ k, e.F k → w.heap.size ≤ k
theorem SoftP.mk' {i t : Nat} {L0 : List Ent} {a a' : Act} {w w' : World} (u : Value) (E : List Ent) (ha : a' = a.put (some t) u) (hK : K i u E) (hE : HS F w0 w' (E ++ L0)) (hb : Below w.heap.size w w') (hn : ∀ e ∈ E, ∀ k, e.F k → w.heap.size ≤ k) : SoftP F w0 K i L0 t a w .normal a' w' :=
  ⟨rfl, by rw [ha, put_defers], u, E, ha, hK, hE, hb, hn⟩
theorem wpS_soft {L0 σ : List Ent} {i t : Nat} {o : Oper} {rest : List Nat} {a : Act} (hi : ops[i]? = some o) (hk1 : kdOf sa hh i = 1) (hd : o.dst = some t) (ht : t < a.tmps.size) (h1 : ∀ w', HS F w0 w' L0 → wpList P ops (SoftP F w0 K i L0 t a w') [o] a w')
    (h2 : ∀ u E, K i u E → wpS P ops N F w0 sa hh K L0 (E ++ σ) rest (a.put (some t) u)) : wpS P ops N F w0 sa hh K L0 σ (i :: rest) a := by
  simp only [wpS, hi]
  rw [if_neg (by rw [hk1]; decide), if_pos hk1, hd]
  refine ⟨fun w' hw' => ?_, fun u E hK _ => h2 u E hK⟩
  refine (V1_of (K := fun a' w'' => ∃ u E, a' = a.put (some t) u ∧ K i u E ∧ HS F w0 w'' (E ++ L0) ∧ Below w'.heap.size w' w'' ∧ ∀ e ∈ E, ∀ k, e.F k → w'.heap.size ≤ k) ?_).mono fun u w'' hu => ?_
  · have h := h1 w' hw'
    have he : SoftP F w0 K i L0 t a w' = fun ex a' w'' => ex = .normal ∧ a'.defers = a.defers ∧ ∃ u E, a' = a.put (some t) u ∧ K i u E ∧ HS F w0 w'' (E ++ L0) ∧ Below w'.heap.size w' w'' ∧ ∀ e ∈ E, ∀ k, e.F k → w'.heap.size ≤ k := by
      funext ex a' w''
      exact propext ⟨fun h => ⟨h.1, h.2, h.3⟩, fun ⟨h1, h2, h3⟩ => ⟨h1, h2, h3⟩⟩
    rwa [he] at h
  · obtain ⟨u', E, he, hK, r⟩ := hu
    rw [hd] at he
    have h4 := put_same a t u ht
    rw [he, put_same a t u' ht] at h4
    injection h4 with h4
    subst h4
    exact ⟨E, hK, r⟩
/-- What stands behind a hard act. -/
structure HardP (P : Program) (ops : Array Oper) (N : Act → World → Prop) (F : Nat → Prop) (w0 : World) (sa hh : List Nat) (K : Nat → Value → List Ent → Prop) (L0 : List Ent) (rest : List Nat) (a : Act) (ex : Exit) (a' : Act) (w' : World) : Prop where
  ex : ex = .normal
  defers : a'.defers = a.defers
  val : ∃ σ', HS F w0 w' (σ' ++ L0) ∧ wpS P ops N F w0 sa hh K L0 σ' rest a'
structure TotP (P : Program) (ops : Array Oper) (N : Act → World → Prop) (F : Nat → Prop) (w0 : World) (sa hh : List Nat) (K : Nat → Value → List Ent → Prop) (rest : List Nat) (a : Act) (ex : Exit) (a' : Act) (w' : World) : Prop where
  ex : ex = .normal
  defers : a'.defers = a.defers
  val : ∃ L1 σ', HS F w0 w' (σ' ++ L1) ∧ wpS P ops N F w0 sa hh K L1 σ' rest a'
theorem HardP.mk' {L0 : List Ent} {rest : List Nat} {a a' : Act} {w' : World} (σ' : List Ent) (hd : a'.defers = a.defers) (h1 : HS F w0 w' (σ' ++ L0)) (h2 : wpS P ops N F w0 sa hh K L0 σ' rest a') : HardP P ops N F w0 sa hh K L0 rest a .normal a' w' := ⟨rfl, hd, σ', h1, h2⟩
theorem TotP.mk' {rest : List Nat} {a a' : Act} {w' : World} (L1 : List Ent) (hd : a'.defers = a.defers) (h1 : HS F w0 w' L1) (h2 : wpS P ops N F w0 sa hh K L1 [] rest a') : TotP P ops N F w0 sa hh K rest a .normal a' w' := ⟨rfl, hd, L1, [], h1, h2⟩
theorem wpS_hard {L0 σ : List Ent} {i : Nat} {o : Oper} {rest : List Nat} {a : Act} (hi : ops[i]? = some o) (hk2 : kdOf sa hh i = 2) (h1 : ∀ w, HS F w0 w (σ ++ L0) → wpList P ops (HardP P ops N F w0 sa hh K L0 rest a) [o] a w) : wpS P ops N F w0 sa hh K L0 σ (i :: rest) a := by
  simp only [wpS, hi]
  rw [if_neg (by rw [hk2]; decide), if_neg (by rw [hk2]; decide)]
  intro w hw
  refine (V1_of (K := fun a' w' => ∃ σ', HS F w0 w' (σ' ++ L0) ∧ wpS P ops N F w0 sa hh K L0 σ' rest a') ?_).mono fun u w' hu => ?_
  · have h := h1 w hw
    have he : HardP P ops N F w0 sa hh K L0 rest a = fun ex a' w' => ex = .normal ∧ a'.defers = a.defers ∧ ∃ σ', HS F w0 w' (σ' ++ L0) ∧ wpS P ops N F w0 sa hh K L0 σ' rest a' := by
      funext ex a' w''
      exact propext ⟨fun h => ⟨h.1, h.2, h.3⟩, fun ⟨h1, h2, h3⟩ => ⟨h1, h2, h3⟩⟩
    rwa [he] at h
  · split
    · obtain ⟨σ', h1, h2⟩ := hu; exact ⟨L0, σ', h1, h2⟩
    · exact hu
theorem wpS_tot {L0 σ : List Ent} {i : Nat} {o : Oper} {rest : List Nat} {a : Act} (hi : ops[i]? = some o) (hk2 : kdOf sa hh i = 2) (ht : totB ops i = true) (h1 : ∀ w, HS F w0 w (σ ++ L0) → wpList P ops (TotP P ops N F w0 sa hh K rest a) [o] a w) : wpS P ops N F w0 sa hh K L0 σ (i :: rest) a := by
  simp only [wpS, hi]
  rw [if_neg (by rw [hk2]; decide), if_neg (by rw [hk2]; decide)]
  intro w hw
  refine (V1_of (K := fun a' w' => ∃ L1 σ', HS F w0 w' (σ' ++ L1) ∧ wpS P ops N F w0 sa hh K L1 σ' rest a') ?_).mono fun u w' hu => ?_
  · have h := h1 w hw
    have he : TotP P ops N F w0 sa hh K rest a = fun ex a' w' => ex = .normal ∧ a'.defers = a.defers ∧ ∃ L1 σ', HS F w0 w' (σ' ++ L1) ∧ wpS P ops N F w0 sa hh K L1 σ' rest a' := by
      funext ex a' w''
      exact propext ⟨fun h => ⟨h.1, h.2, h.3⟩, fun ⟨h1, h2, h3⟩ => ⟨h1, h2, h3⟩⟩
    rwa [he] at h
  · rw [if_pos ht]; exact hu
theorem wpS_end {L0 σ : List Ent} {a : Act} (h : ∀ w, HS F w0 w (σ ++ L0) → N a w) : wpS P ops N F w0 sa hh K L0 σ [] a := h
end
end Go.Cour
/- The program's words of a block. -/
namespace Go.Proofs.YtlikinglgegclaaDoor
open Go.RowKit Go.Cour
theorem infoW64 : (Tryd.prog.info? 123).map (·.size) = some 64 := by kernel_rfl
theorem arrW64 : Tryd.prog.underlying 123 = some (.array 64 29) := by kernel_rfl
theorem zeroW64 : ((Tryd.prog.info? 123).bind (·.zero)).map (·.cells) = some (ints .u32 (List.replicate 64 0)).toArray := by kernel_rfl
/-- Bytes that stand in memory. -/
def At (w : World) (g o : Nat) (b : List Int) (n : Nat) : Prop := ∀ i, i < n → w.cell? ⟨g, o + i, none⟩ = some (.int .u8 (rd b i))
theorem At.below {w w' : World} {g o n : Nat} {b : List Int} (h : At w g o b n) (hb : Below w.heap.size w w') : At w' g o b n := fun i hi => (hb.cell (lt_of_cell (h i hi))).trans (h i hi)
end Go.Proofs.YtlikinglgegclaaDoor
