import Derived.Deep.MidRow
import Derived.Laws.CopyOwn
import Derived.ArgAppend
import Derived.Test.YtckcdngnkpfcfaaDoorProg
import Derived.Test.YtckcdngnkpfcfaaDoorMgTT0
set_option linter.unusedSimpArgs false
set_option linter.unusedVariables false
/- Steps over memory that is a list of things side by side; drawn regions whose worlds stay letters. -/
namespace Go.Cour
open Go.RowKit
section
variable {P : Program} {ops : Array Oper} {N : Act → World → Prop} {T : World → Prop}
/-- A region that draws its order, from any world of which T holds. -/
theorem wp_region_L {id : Nat} {a : Act} {w : World} {Q : Exit → Act → World → Prop} (T : World → Prop) (hm : P.follows .mixedOrders = true) (hc : chkT ops = true) (hT : T w.drew) (h : ∀ w', T w' → wpT P ops (fun a' w' => Q .normal a' w') T (List.range ops.size) a w') : (Code.region id ops true).wp P Q a w :=
  wp_region_T T hm hc hT (h _ hT)
/-- Behind an operation that acts: T holds still. -/
def OnT (P : Program) (ops : Array Oper) (N : Act → World → Prop) (T : World → Prop) (rest : List Nat) (a : Act) (ex : Exit) (a' : Act) (w' : World) : Prop := ex = .normal ∧ a'.defers = a.defers ∧ T w' ∧ ∀ w'', T w'' → wpT P ops N T rest a' w''
/-- Behind one that stands in one order with all others: another fact may hold. -/
def OnX (P : Program) (ops : Array Oper) (N : Act → World → Prop) (rest : List Nat) (a : Act) (ex : Exit) (a' : Act) (w' : World) : Prop := ex = .normal ∧ a'.defers = a.defers ∧ ∃ T' : World → Prop, T' w' ∧ ∀ w'', T' w'' → wpT P ops N T' rest a' w''
theorem OnT.mk {rest : List Nat} {a a' : Act} {w' : World} (hd : a'.defers = a.defers) (h : T w') (h2 : ∀ w'', T w'' → wpT P ops N T rest a' w'') : OnT P ops N T rest a .normal a' w' := ⟨rfl, hd, h, h2⟩
theorem OnX.mk {rest : List Nat} {a a' : Act} {w' : World} (T' : World → Prop) (hd : a'.defers = a.defers) (h : T' w') (h2 : ∀ w'', T' w'' → wpT P ops N T' rest a' w'') : OnX P ops N rest a .normal a' w' := ⟨rfl, hd, T', h, h2⟩
theorem wpT_actL {i : Nat} {o : Oper} {rest : List Nat} {a : Act} {w : World} (hi : ops[i]? = some o) (hk : readK o.op = false) (h : wpList P ops (OnT P ops N T rest a) [o] a w) : wpT P ops N T (i :: rest) a w := by
  simp only [wpT, hi]
  rw [if_neg (by rw [hk]; decide)]
  refine (V1_of (K := fun a' w' => T w' ∧ ∀ w'', T w'' → wpT P ops N T rest a' w'') h).mono fun u w' hu => ?_
  split
  · exact ⟨T, hu.1, hu.2 _ hu.1⟩
  · exact ⟨hu.1, hu.2 _ hu.1⟩
theorem wpT_totL {i : Nat} {o : Oper} {rest : List Nat} {a : Act} {w : World} (hi : ops[i]? = some o) (hk : readK o.op = false) (ht : totB ops i = true) (h : wpList P ops (OnX P ops N rest a) [o] a w) : wpT P ops N T (i :: rest) a w := by
  simp only [wpT, hi]
  rw [if_neg (by rw [hk]; decide)]
  refine (V1_of (K := fun a' w' => ∃ T' : World → Prop, T' w' ∧ ∀ w'', T' w'' → wpT P ops N T' rest a' w'') h).mono fun u w' hu => ?_
  obtain ⟨T', h1, h2⟩ := hu
  rw [if_pos ht]; exact ⟨T', h1, h2 _ h1⟩
end
section
variable {P : Program} {ops : Array Oper} {rest : List Oper} {o : Oper} {a : Act} {w w0 : World} {Q : Exit → Act → World → Prop} {F : Nat → Prop} {L : List Ent}
theorem listed_one {w : World} {g : Nat} {t : TypeId} {cs : List Value} (h : Blk w g t cs) (j : Nat) (v : Value) : (w.setCells g j [v]) = w.setCell ⟨g, j, none⟩ v := by
  simp [World.setCells]
theorem there_blk {w : World} {g : Nat} {t : TypeId} {cs : List Value} (h : Blk w g t cs) {j n : Nat} (hn : j + n ≤ cs.length) : w.there g j n := fun i hi => by
  refine ⟨?_, ?_⟩
  · rw [h.cell, List.getElem?_eq_getElem (by omega)]; rfl
  · exact h.frozen _
theorem setCells_blk {g : Nat} {t : TypeId} : ∀ (vs : List Value) {w : World} {cs : List Value} (j : Nat), Blk w g t cs → j + vs.length ≤ cs.length → Blk (w.setCells g j vs) g t (cs.take j ++ vs ++ cs.drop (j + vs.length))
  | [], w, cs, j, h, _ => by simpa [World.setCells] using h
  | v :: vs, w, cs, j, h, hl => by
    have h1 := h.set j v
    have h2 := setCells_blk vs (j + 1) h1 (by simp at hl ⊢; omega)
    simp only [World.setCells]
    have e : (cs.set j v).take (j + 1) ++ vs ++ (cs.set j v).drop (j + 1 + vs.length) = cs.take j ++ (v :: vs) ++ cs.drop (j + (v :: vs).length) := by
      simp only [List.length_cons] at hl
      rw [List.drop_set_of_lt (by omega), List.take_succ_eq_append_getElem (by simp; omega), List.getElem_set_self, List.take_set_of_le (Nat.le_refl _)]
      simp [Nat.add_assoc, Nat.add_comm 1]
    rw [e] at h2
    exact h2
theorem setCells_upd {g : Nat} : ∀ (vs : List Value) (w : World) (j : Nat), Upd (fun k => k = g) w (w.setCells g j vs)
  | [], w, j => Upd.refl _ _
  | v :: vs, w, j => by
    simp only [World.setCells]
    exact ((Upd.setCell w ⟨g, j, none⟩ v).mono fun _ _ hk => hk).trans (setCells_upd vs _ (j + 1)) fun _ _ hk => hk
theorem HS.setCells (h : HS F w0 w L) (i : Nat) {g : Nat} {t : TypeId} {cs : List Value} (hi : L[i]? = some (.blk g t cs)) (j : Nat) (vs : List Value) (hl : j + vs.length ≤ cs.length) : HS F w0 (w.setCells g j vs) (L.set i (.blk g t (cs.take j ++ vs ++ cs.drop (j + vs.length)))) :=
  h.upd1 i hi (setCells_upd vs w j) _ (setCells_blk vs j (h.blk i hi) hl) fun k hk => .inl hk
/-- A cell stored. -/
theorem hs_store1 (hS : HS F w0 w L) (i : Nat) {g : Nat} {t : TypeId} {cs : List Value} (hi : L[i]? = some (.blk g t cs)) (hw : Region.wanted o (yielded ops a.tmps) = true) (ty : TypeId) (x y : Operand) (ho : o.op = .store ty x y)
    (j : Nat) (hx : a.eval x = .pointer (some ⟨g, j, none⟩)) (v : Value) (hv : a.eval y = v) (h1 : v.oneCell' = true) (hs : (P.info? ty).map (·.size) = some 1) (hj : j < cs.length) (d : Option Tmp) (hd : o.dst = d)
    (h : ∀ w', HS F w0 w' (L.set i (.blk g t (cs.set j v))) → wpList P ops Q rest (a.put d undef) w') : wpList P ops Q (o :: rest) a w := by
  subst hd
  refine wpList_step fun K hK => ?_
  rw [if_pos hw]
  have hc : v.cells = #[v] := by cases v <;> first | rfl | cases h1
  have hb := hS.blk i hi
  have hcell : w.cell? ⟨g, j, none⟩ = some cs[j] := by rw [hb.cell, List.getElem?_eq_getElem hj]
  have hfz := hb.frozen j
  have hrun : (storeVar ty ⟨g, j, none⟩ v).run P w = .ok () (w.setCell ⟨g, j, none⟩ v) := by
    cases hq : P.info? ty with
    | none => simp [hq] at hs
    | some z =>
      have hz : z.size = 1 := by simpa [hq] using hs
      have := run_storeVar_mid (P := P) w g j ty #[v] (there_blk hb (by simp; omega)) (by simp [hq, hz]) (by simpa using h1)
      have h2 : storeVar ty ⟨g, j, none⟩ v = storeVar ty ⟨g, j, none⟩ (.agg #[v]) := by
        have e1 : (Value.agg #[v]).cells = #[v] := rfl
        unfold storeVar
        rw [hc, e1]
      rw [h2, this, listed_one hb]
  unfold Oper.wp execOp
  simp only [ho, hx, hv, Instr.storeAt, Instr.sureAddr, Sem.run_bind, Sem.run_pure, Result.andThen_ok, hrun]
  exact hK _ _ (h _ (hS.setCell i hi j v))
/-- Cells stored, a whole array or struct. -/
theorem hs_storeN (hS : HS F w0 w L) (i : Nat) {g : Nat} {t : TypeId} {cs : List Value} (hi : L[i]? = some (.blk g t cs)) (hw : Region.wanted o (yielded ops a.tmps) = true) (ty : TypeId) (x y : Operand) (ho : o.op = .store ty x y)
    (j : Nat) (hx : a.eval x = .pointer (some ⟨g, j, none⟩)) (vs : List Value) (hv : a.eval y = .agg vs.toArray) (h1 : ∀ v ∈ vs, v.oneCell' = true) (n : Nat) (hs : (P.info? ty).map (·.size) = some n) (hn : vs.length = n) (hj : j + n ≤ cs.length) (d : Option Tmp) (hd : o.dst = d)
    (h : ∀ w', HS F w0 w' (L.set i (.blk g t (cs.take j ++ vs ++ cs.drop (j + n)))) → wpList P ops Q rest (a.put d undef) w') : wpList P ops Q (o :: rest) a w := by
  subst hd hn
  refine wpList_step fun K hK => ?_
  rw [if_pos hw]
  exact wp_store_mid ty x y ho g j vs.toArray hx hv (by simpa using there_blk (hS.blk i hi) hj) (by simpa using hs) (all_oneCell_toArray h1) (hK _ _ (h _ (hS.setCells i hi j vs hj)))
/-- Cells loaded: an array or a struct, whole. -/
theorem hs_loadN (hS : HS F w0 w L) (i : Nat) {g : Nat} {t : TypeId} {cs : List Value} (hi : L[i]? = some (.blk g t cs)) (hw : Region.wanted o (yielded ops a.tmps) = true) (ty : TypeId) (x : Operand) (ho : o.op = .load ty x)
    (j : Nat) (hx : a.eval x = .pointer (some ⟨g, j, none⟩)) (vs : List Value) (hc : ∀ m v, vs[m]? = some v → cs[j + m]? = some v) (n : Nat) (hs : (P.info? ty).map (·.size) = some n) (hn : vs.length = n) (b : TypeDesc) (hu : P.underlying ty = some b) (hb : b.isRow = true) (d : Option Tmp) (hd : o.dst = d)
    (h : wpList P ops Q rest (a.put d (.agg vs.toArray)) w) : wpList P ops Q (o :: rest) a w := by
  subst hd hn
  refine wpList_step fun K hK => ?_
  rw [if_pos hw]
  exact wp_load_mid ty x ho g j hx vs b (fun m v hv => by rw [(hS.blk i hi).cell]; exact hc m v hv) hu hb hs (hK _ _ h)
/-- A cell loaded. -/
theorem hs_load1 (hS : HS F w0 w L) (i : Nat) {g : Nat} {t : TypeId} {cs : List Value} (hi : L[i]? = some (.blk g t cs)) (hw : Region.wanted o (yielded ops a.tmps) = true) (ty : TypeId) (x : Operand) (ho : o.op = .load ty x)
    (j : Nat) (hx : a.eval x = .pointer (some ⟨g, j, none⟩)) (v : Value) (hc : cs[j]? = some v) (b : TypeDesc) (hu : P.underlying ty = some b) (hb : b.isRow = false) (d : Option Tmp) (hd : o.dst = d)
    (h : wpList P ops Q rest (a.put d v) w) : wpList P ops Q (o :: rest) a w := by
  subst hd
  refine wpList_step fun K hK => ?_
  rw [if_pos hw]
  have hcell : w.cell? ⟨g, j, none⟩ = some v := by rw [(hS.blk i hi).cell]; exact hc
  have hagg : (isAgg ty).run P w = .ok false w := by
    unfold isAgg
    rw [Sem.run_bind, run_underlying hu w]
    cases b <;> simp_all
  have hrun : (loadVar ty ⟨g, j, none⟩).run P w = .ok v w := by
    simp [loadVar, Sem.run_bind, hagg, hcell]
  unfold Oper.wp execOp
  simp only [ho, hx, Instr.loadAt, Instr.sureAddr, Sem.run_bind, Sem.run_pure, Result.andThen_ok, hrun]
  exact hK _ _ h
/-- A whole block stored anew. -/
theorem hs_storeW (hS : HS F w0 w L) (i : Nat) {g : Nat} {t : TypeId} {cs : List Value} (hi : L[i]? = some (.blk g t cs)) (hw : Region.wanted o (yielded ops a.tmps) = true) (ty : TypeId) (x y : Operand) (ho : o.op = .store ty x y)
    (hx : a.eval x = .pointer (some ⟨g, 0, none⟩)) (vs : List Value) (hv : a.eval y = .agg vs.toArray) (h1 : ∀ v ∈ vs, v.oneCell' = true) (n : Nat) (hs : (P.info? ty).map (·.size) = some n) (hn : vs.length = n) (hc : cs.length = n) (d : Option Tmp) (hd : o.dst = d)
    (h : ∀ w', HS F w0 w' (L.set i (.blk g t vs)) → wpList P ops Q rest (a.put d undef) w') : wpList P ops Q (o :: rest) a w := by
  refine hs_storeN hS i hi hw ty x y ho 0 hx vs hv h1 n hs hn (by omega) d hd fun w' hS' => h w' ?_
  rw [List.take_zero, List.nil_append, Nat.zero_add, List.drop_eq_nil_of_le (by omega), List.append_nil] at hS'
  exact hS'
/-- A whole block loaded. -/
theorem hs_loadW (hS : HS F w0 w L) (i : Nat) {g : Nat} {t : TypeId} {vs : List Value} (hi : L[i]? = some (.blk g t vs)) (hw : Region.wanted o (yielded ops a.tmps) = true) (ty : TypeId) (x : Operand) (ho : o.op = .load ty x)
    (hx : a.eval x = .pointer (some ⟨g, 0, none⟩)) (n : Nat) (hs : (P.info? ty).map (·.size) = some n) (hn : vs.length = n) (b : TypeDesc) (hu : P.underlying ty = some b) (hb : b.isRow = true) (d : Option Tmp) (hd : o.dst = d)
    (h : wpList P ops Q rest (a.put d (.agg vs.toArray)) w) : wpList P ops Q (o :: rest) a w :=
  hs_loadN hS i hi hw ty x ho 0 hx vs (fun m v hv => by rw [Nat.zero_add]; exact hv) n hs hn b hu hb d hd h
end
theorem bodyPost_void {P : Program} {fn : Func} {R : Ending → World → Prop} {a : Act} {w : World} (hr : fn.results = #[]) (hd : a.defers = []) (hR : R (.returned (.tuple #[])) w) : bodyPost P fn R .normal a w :=
  bodyPost_end (results_none hr _ _ _) hd hR
end Go.Cour
/- s[f:], and copy over what one owns. -/
namespace Go.Cour
open Go.RowKit
section
variable {P : Program} {w : World} {ops : Array Oper} {rest : List Oper} {o : Oper} {a : Act} {Q : Exit → Act → World → Prop}
/-- Where s[f:] begins. -/
def cutA (A : Option Addr) (c f : Nat) : Option Addr := if c = f then A else A.map (·.add f)
theorem cutA_some {A : Option Addr} {c f m : Nat} (hf : f < m) (hmc : m ≤ c) : cutA A c f = A.map (·.add f) := by unfold cutA; rw [if_neg (by omega)]
theorem cutA_none {A : Option Addr} {c f : Nat} (hA : A = none → c = 0) (h : cutA A c f = none) : c - f = 0 := by
  unfold cutA at h
  split at h
  · omega
  · have := hA (by simpa using h)
    omega
theorem slice_cut (hw : Region.wanted o (yielded ops a.tmps) = true) (x y : Operand) (t : TypeId) (ho : o.op = .slice t x (some y) none none) (e : TypeId)
    (hu : P.underlying t = some (.slice e)) (hsz : (P.info? e).map (·.size) = some 1) (k : IntKind) (A : Option Addr) (m c f : Nat) (hx : a.eval x = .slice A m c) (hy : a.eval y = .int k (f : Int)) (hf : f ≤ m)
    (h : wpList P ops Q rest (a.put o.dst (.slice (cutA A c f) (m - f) (c - f))) w) : wpList P ops Q (o :: rest) a w := by
  obtain ⟨i, hi, hs⟩ : ∃ i, P.info? e = some i ∧ i.size = 1 := by
    cases hie : P.info? e with
    | none => simp [hie] at hsz
    | some i => exact ⟨i, rfl, by simpa [hie] using hsz⟩
  refine wpList_step fun K hK => ?_
  rw [if_pos hw]
  have hs2 : (sizeOf e).run P w = .ok 1 w := by simp [sizeOf, typeInfo, hi, hs]
  have hrun : (Instr.slice t (.slice A m c) (some (.int k (f : Int))) none none).run P w = .ok (.slice (cutA A c f) (m - f) (c - f)) w := by
    simp [Instr.slice, run_underlying hu, Instr.sliceBounds, run_sliceBound, hs2, hf, cutA]
  have hrun2 : (Instr.sliceAt t (.slice A m c) (some (.int k (f : Int))) none none).run P w = .ok (.slice (cutA A c f) (m - f) (c - f)) w := by
    rw [← hrun]; simp [Instr.sliceAt, run_underlying hu]
  unfold Oper.wp execOp
  simp only [ho, hx, hy, Option.map_some, Option.map_none]
  simp only [Sem.run_bind, Sem.run_pure, hrun2, Result.andThen_ok, Functor.map]
  first
    | exact hK _ _ h
    | (simp [hrun2]; exact hK _ _ h)
/-- s[f:] reads what stands from f on. -/
theorem rd_from {A A' : Option Addr} {k : IntKind} {xs : List Int} {f : Nat} (h : Rd w A k xs) (hA : f < xs.length → A' = A.map (·.add f)) : Rd w A' k (xs.drop f) := by
  by_cases hf : f < xs.length
  · rw [hA hf]
    rcases h with h | ⟨g, o, rfl, h⟩
    · exact .inl (by rw [h]; simp)
    · refine .inr ⟨g, o + f, by rw [Option.map_some, add_lit], fun i hi => ?_⟩
      rw [rd_drop, Nat.add_assoc]
      exact h _ (by rw [List.length_drop] at hi; omega)
  · exact .inl (List.drop_eq_nil_of_le (by omega))
/-- What stands behind copy(s[f:], ys). -/
def laid (xs : List Int) (f n : Nat) (ys : List Int) : List Int := xs.take f ++ ys.take n ++ xs.drop (f + n)
theorem laid_length {xs ys : List Int} {f n : Nat} (h1 : f + n ≤ xs.length) (h2 : n ≤ ys.length) : (laid xs f n ys).length = xs.length := by simp [laid]; omega
theorem copy_own (hgd : o.guard = none) (d s : Operand) (dT sT : TypeId)
    (ho : o.op = .call { callee := .builtin .copy, args := #[d, s], argTypes := #[dT, sT] }) (e : TypeId) (hu : P.underlying dT = some (.slice e)) (hsz : (P.info? e).map (·.size) = some 1)
    (k : IntKind) (x : Value) (xs : List Int) (hown : Own w 0 e k x xs) (A : Option Addr) (m c : Nat) (hx : x = .slice A m c) (hm : xs.length = m) (f : Nat) (hf : f ≤ m)
    (A' : Option Addr) (dCap : Nat) (hd : a.eval d = .slice A' (m - f) dCap) (hA' : f < m → A' = A.map (·.add f))
    (Ab : Option Addr) (q sCap : Nat) (ys : List Int) (hs : a.eval s = .slice Ab q sCap) (hq : ys.length = q) (hr : Rd w Ab k ys) (n : Nat) (hn : n = min q (m - f))
    (h : ∀ w', Own w' 0 e k x (laid xs f n ys) → Upd (fun j => x.ownBlock = some j) w w' → wpList P ops Q rest (a.put o.dst (.int .i64 (n : Int))) w') : wpList P ops Q (o :: rest) a w := by
  by_cases h0 : n = 0
  · subst h0
    refine wpList_copy_nothing hgd d s dT sT ho e hu hsz A' Ab (m - f) dCap q sCap hd hs hn.symm ?_
    exact h w (by unfold laid; rw [List.take_zero, List.append_nil, Nat.add_zero, List.take_append_drop]; exact hown) (Upd.refl _ _)
  · have hown0 := hown
    obtain ⟨h1, ⟨h2, h3⟩ | ⟨g, cap, cur, h2, hbg, hh, hnc, hcm, hcs, ht⟩⟩ := hown
    · omega
    · obtain ⟨rfl, hmm, rfl⟩ : A = some ⟨g, 0, none⟩ ∧ m = xs.length ∧ c = cap := by
        rw [hx] at h2; injection h2 with h2 h3 h4; exact ⟨h2, h3, h4⟩
      have hA2 : A' = some ⟨g, f, none⟩ := by rw [hA' (by omega), Option.map_some, add_lit, Nat.zero_add]
      subst hA2
      have hl : (ints k (ys.take n)).length = n := by simp; omega
      obtain ⟨gb, ob, rfl, hcell⟩ : ∃ gb ob, Ab = some ⟨gb, ob, none⟩ ∧ ∀ i, i < ys.length → w.cell? ⟨gb, ob + i, none⟩ = some (.int k (rd ys i)) := by
        rcases hr with hr | hr
        · rw [hr] at hq; simp at hq; omega
        · exact hr
      refine wpList_copy_own hgd d s dT sT ho e hu hsz g f (m - f) dCap ⟨gb, ob, none⟩ q sCap hd hs cur e hh (ints k (ys.take n)) (by rw [hl]; exact hn) ?_ (by rw [hl]; omega) ?_ ?_
      · intro j v hj
        have hj' : j < n := by have := (List.getElem?_eq_some_iff.1 hj).1; omega
        have hjl : j < ys.length := by omega
        rw [ints_get k _ j (by simp; omega)] at hj
        injection hj with hj
        subst hj
        rw [rd_take _ _ _ hj', add_lit]
        exact hcell j hjl
      · intro v hv
        obtain ⟨y, _, rfl⟩ := List.mem_map.1 hv
        rfl
      · rw [hl]
        have hsplit : cur.toList = ints k xs ++ cur.toList.drop m := by
          rw [← List.take_append_drop m cur.toList, List.drop_left' (by simp; omega)]
          rw [Nat.mul_one, ← hmm] at ht
          rw [ht]
        have hrow : cur.toList.take f ++ (ints k (ys.take n) ++ cur.toList.drop (f + n)) = ints k (laid xs f n ys) ++ cur.toList.drop m := by
          generalize cur.toList.drop m = R at hsplit
          have hlx : (ints k xs).length = m := by simp; omega
          rw [hsplit, List.take_append_of_le_length (by omega), List.drop_append_of_le_length (by omega)]
          simp [laid, ints, List.map_take, List.map_drop]
        have hlen := laid_length (xs := xs) (ys := ys) (f := f) (n := n) (by omega) (by omega)
        refine h _ ⟨by simp, .inr ⟨g, c, _, by rw [h2, hlen], Nat.zero_le _, setRow_heap w g cur _ e _ hh, by omega, hcm, ?_, ?_⟩⟩ ((Upd.setRow w g _).mono fun j _ hj => by subst hj; rw [h2]; rfl)
        · simp; omega
        · rw [hrow, List.take_left' (by simp)]
end
end Go.Cour
/- Slices of one's own, wherever they begin in their block: read, cut, appended to, written. -/
namespace Go.Cour
open Go.RowKit
/-- The slice value v, of the cells cs, is one's own. -/
def OwnS (w : World) (e : TypeId) (v : Value) (cs : List Value) : Prop :=
  (v = .slice none 0 0 ∧ cs = []) ∨ ∃ g off c cur, v = .slice (some ⟨g, off, none⟩) cs.length c ∧ w.heap[g]? = some (.cells cur e (0, 0)) ∧ cs.length ≤ c ∧ off + c ≤ cur.size ∧ c ≤ maxLen ∧ ∀ j u, cs[j]? = some u → cur[off + j]? = some u
section
variable {w w' : World} {e : TypeId} {v v' : Value} {cs : List Value}
theorem OwnS.nil (w : World) (e : TypeId) : OwnS w e (.slice none 0 0) [] := .inl ⟨rfl, rfl⟩
theorem OwnS.lt (h : OwnS w e v cs) (j : Nat) (hj : v.ownBlock = some j) : j < w.heap.size := by
  rcases h with ⟨rfl, _⟩ | ⟨g, off, c, cur, rfl, hh, _⟩
  · simp [Value.ownBlock] at hj
  · have : g = j := by simpa [Value.ownBlock] using hj
    subst this
    exact (Array.getElem?_eq_some_iff.1 hh).1
theorem OwnS.kept (h : OwnS w e v cs) (hk : ∀ j, v.ownBlock = some j → w'.heap[j]? = w.heap[j]?) : OwnS w' e v cs := by
  rcases h with h | ⟨g, off, c, cur, rfl, hh, r⟩
  · exact .inl h
  · exact .inr ⟨g, off, c, cur, rfl, (hk g rfl).trans hh, r⟩
theorem OwnS.below (h : OwnS w e v cs) (hb : Below w.heap.size w w') : OwnS w' e v cs := h.kept fun j hj => hb.block j (h.lt j hj)
theorem OwnS.parts (h : OwnS w e v cs) : ∃ A c, v = .slice A cs.length c ∧ cs.length ≤ c ∧ c ≤ maxLen ∧ (A = none → c = 0) ∧ (∀ a, A = some a → v.ownBlock = some a.block) ∧ ∀ j u, cs[j]? = some u → ∃ g off, A = some ⟨g, off, none⟩ ∧ w.cell? ⟨g, off + j, none⟩ = some u := by
  rcases h with ⟨rfl, rfl⟩ | ⟨g, off, c, cur, rfl, hh, h1, h2, h3, h4⟩
  · exact ⟨none, 0, rfl, Nat.le_refl _, by unfold maxLen; omega, fun _ => rfl, fun a ha => (by cases ha), fun j u hu => by simp at hu⟩
  · exact ⟨_, c, rfl, h1, h3, (fun ha => by cases ha), (fun a ha => by injection ha with ha; subst ha; rfl), fun j u hu => ⟨g, off, rfl, by rw [cell_of_row w g _ cur e (0, 0) hh]; exact h4 j u hu⟩⟩
theorem OwnS.ofRow {b : Nat} (h : w.ownsRow b e 1 v cs.length cs) : OwnS w e v cs := by
  obtain ⟨h1, ⟨rfl, h2⟩ | ⟨g, cap, cur, rfl, hg, hh, hn, hm, hs, ht⟩⟩ := h
  · exact .inl ⟨rfl, List.eq_nil_of_length_eq_zero h2⟩
  · refine .inr ⟨g, 0, cap, cur, rfl, hh, hn, by omega, hm, fun j u hu => ?_⟩
    rw [← ht, Nat.mul_one, List.getElem?_take] at hu
    split at hu
    · simpa using hu
    · cases hu
theorem Own.os {b : Nat} {k : IntKind} {xs : List Int} (h : Own w b e k v xs) : OwnS w e v (ints k xs) := OwnS.ofRow (b := b) (by
  have : xs.length = (ints k xs).length := by simp
  unfold Own at h
  rwa [this] at h)
theorem OwnV.os {b : Nat} (h : OwnV w b e v cs) : OwnS w e v cs := OwnS.ofRow h
theorem OwnS.ofBlk {g : Nat} (h : Blk w g e cs) (hm : cs.length ≤ maxLen) : OwnS w e (.slice (some ⟨g, 0, none⟩) cs.length cs.length) cs :=
  .inr ⟨g, 0, cs.length, cs.toArray, rfl, h, Nat.le_refl _, by simp, hm, fun j u hu => by simpa using hu⟩
/-- It reads as numbers. -/
theorem OwnS.rd {k : IntKind} {xs : List Int} (h : OwnS w e v (ints k xs)) {A : Option Addr} {n c : Nat} (hv : v = .slice A n c) : Rd w A k xs := by
  rcases h with ⟨rfl, h⟩ | ⟨g, off, c', cur, rfl, hh, h1, h2, h3, h4⟩
  · left; simpa [ints] using h
  · injection hv with hv
    subst hv
    exact .inr ⟨g, off, rfl, fun i hi => by rw [cell_of_row w g _ cur e (0, 0) hh]; exact h4 i _ (ints_get k xs i hi)⟩
theorem OwnS.len {A : Option Addr} {n c : Nat} (h : OwnS w e (.slice A n c) cs) : n = cs.length ∧ n ≤ c ∧ c ≤ maxLen ∧ (A = none → c = 0) := by
  obtain ⟨A', c', hv, h1, h2, h3, _⟩ := h.parts
  injection hv with hv1 hv2 hv3
  subst hv1 hv2 hv3
  exact ⟨rfl, h1, h2, h3⟩
theorem OwnS.cut {A : Option Addr} {n c : Nat} (h : OwnS w e (.slice A n c) cs) (f : Nat) (hf : f ≤ n) : OwnS w e (.slice (cutA A c f) (n - f) (c - f)) (cs.drop f) := by
  rcases h with ⟨hv, rfl⟩ | ⟨g, off, c', cur, hv, hh, h1, h2, h3, h4⟩
  · injection hv with hv1 hv2 hv3
    subst hv1 hv2 hv3
    obtain rfl : f = 0 := by omega
    exact .inl ⟨by simp [cutA], by simp⟩
  · injection hv with hv1 hv2 hv3
    subst hv1 hv2 hv3
    unfold cutA
    by_cases hc : c = f
    · rw [if_pos hc]
      refine .inr ⟨g, off, c - f, cur, by simp, hh, by simp; omega, by omega, by omega, fun j u hu => ?_⟩
      rw [List.getElem?_drop] at hu
      have := (List.getElem?_eq_some_iff.1 hu).1
      omega
    · rw [if_neg hc]
      refine .inr ⟨g, off + f, c - f, cur, by simp [add_lit], hh, by simp; omega, by omega, by omega, fun j u hu => ?_⟩
      rw [List.getElem?_drop] at hu
      rw [Nat.add_assoc]
      exact h4 _ _ hu
theorem cutA_own {A : Option Addr} {c f n m n' c' : Nat} (j : Nat) (h : (Value.slice (cutA A c f) n m).ownBlock = some j) : (Value.slice A n' c').ownBlock = some j := by
  unfold cutA at h
  split at h
  · cases A with
    | none => simp [Value.ownBlock] at h
    | some a => simpa [Value.ownBlock] using h
  · cases A with
    | none => simp [Value.ownBlock] at h
    | some a => simp [Value.ownBlock] at h ⊢; rw [← h]; simp [Addr.add]; split <;> rfl
/-- A place of it written. -/
theorem OwnS.set (h : OwnS w e v cs) {g off n c : Nat} (hv : v = .slice (some ⟨g, off, none⟩) n c) (j : Nat) (u : Value) (hj : j < cs.length) : OwnS (w.setCell ⟨g, off + j, none⟩ u) e v (cs.set j u) := by
  rcases h with ⟨rfl, rfl⟩ | ⟨g', off', c', cur, hv', hh, h1, h2, h3, h4⟩
  · simp at hj
  · rw [hv] at hv'
    injection hv' with hv1 hv2 hv3
    injection hv1 with hv1
    injection hv1 with hv1 hv4
    subst hv1 hv2 hv3 hv4
    refine .inr ⟨g, off, c, cur.setIfInBounds (off + j) u, by rw [hv, List.length_set], heap_setCell_same w g (off + j) cur e _ hh, by simpa using h1, by simpa using h2, h3, fun i x hx => ?_⟩
    by_cases hij : j = i
    · subst hij
      rw [List.getElem?_set_self hj] at hx
      rw [Array.getElem?_setIfInBounds]
      simp [← hx]; omega
    · rw [List.getElem?_set_ne hij] at hx
      rw [Array.getElem?_setIfInBounds_ne (by omega)]
      exact h4 i x hx
theorem OwnS.frozen (h : OwnS w e v cs) {g off n c : Nat} (hv : v = .slice (some ⟨g, off, none⟩) n c) (j : Nat) : w.frozen? ⟨g, j, none⟩ = false := by
  rcases h with ⟨rfl, rfl⟩ | ⟨g', off', c', cur, hv', hh, _⟩
  · cases hv
  · rw [hv] at hv'
    injection hv' with hv1
    injection hv1 with hv1
    injection hv1 with hv1
    subst hv1
    simp [World.frozen?, hh]
end
def Ent.os (e : TypeId) (v : Value) (cs : List Value) : Ent where
  F := fun j => v.ownBlock = some j
  p := fun w => OwnS w e v cs
  lt := fun h j hj => h.lt j hj
  kept := fun h hk => h.kept hk
section
variable {P : Program} {w w0 : World} {F : Nat → Prop} {L : List Ent}
theorem HS.os (h : HS F w0 w L) (i : Nat) {t : TypeId} {v : Value} {cs : List Value} (hi : L[i]? = some (.os t v cs)) : OwnS w t v cs := h.mem.get hi
theorem firstCells_none {w : World} {n : Nat} (h : n = 0) : True := trivial
/-- append, whatever lies behind the slice. -/
theorem run_append_os (t ty e : TypeId) (bytes : Nat) (ht : P.underlying t = some (.slice e)) (hi : (P.info? e).map (fun i => (i.size, i.bytes)) = some (1, bytes)) (hz : (((P.info? e).bind (·.zero)).map (·.cells.size)) = some 1)
    (v : Value) (cs : List Value) (hown : OwnS w e v cs) (A : Option Addr) (m c : Nat) (news : List Value) (hl : news.length = m) (hnews : ∀ j u, news[j]? = some u → ∃ ad, A = some ad ∧ w.cell? (ad.add j) = some u) (h1 : ∀ u ∈ news, u.oneCell' = true)
    (hbytes : (cs.length + m) * bytes ≤ 140737488355328) (h63 : cs.length + m ≤ 140737488355328) :
    ∃ v' w', (Builtin.append_ #[t, t] ty #[v, .slice A m c]).run P w = .ok v' w' ∧ OwnS w' e v' (cs ++ news) ∧ Upd (fun j => v.ownBlock = some j) w w' ∧ ∀ k, v'.ownBlock = some k → v.ownBlock = some k ∨ w.heap.size ≤ k := by
  obtain ⟨i, hi0, hi1, hi2⟩ : ∃ i, P.info? e = some i ∧ i.size = 1 ∧ i.bytes = bytes := by
    cases hq : P.info? e with
    | none => simp [hq] at hi
    | some i => simp [hq] at hi; exact ⟨i, rfl, hi.1, hi.2⟩
  obtain ⟨z, hz0, hz1⟩ : ∃ z, i.zero = some z ∧ z.cells.size = 1 := by
    cases hq : i.zero with
    | none => simp [hi0, hq] at hz
    | some z => simp [hi0, hq] at hz; exact ⟨z, rfl, hz⟩
  by_cases hm : m = 0
  · have hnil : news = [] := List.eq_nil_of_length_eq_zero (by omega)
    subst hnil hm
    refine ⟨v, w, ?_, by simpa using hown, Upd.refl _ _, fun k hk => .inl hk⟩
    have hr : ∀ (B : Option Addr) (n cap : Nat), n ≤ cap → v = .slice B n cap → (B = none → cap = 0) → (Builtin.append_ #[t, t] ty #[.slice B n cap, .slice A 0 c]).run P w = .ok (.slice B n cap) w := fun B n cap hnc hv hB => by
      cases B with
      | none =>
        have := hB rfl
        obtain rfl : n = 0 := by omega
        cases A <;> simp [Builtin.append_, run_underlying ht, sizeOf, typeInfo, hi0, Builtin.lenOf, Builtin.firstCells, loadCells, loadCellsFrom]
      | some b => cases A <;> simp [Builtin.append_, run_underlying ht, sizeOf, typeInfo, hi0, Builtin.lenOf, hnc, Builtin.firstCells, loadCells, loadCellsFrom, storeCells]
    obtain ⟨B, cap, hv, hnc, _, hB, _⟩ := hown.parts
    rw [hv]; exact hr B cs.length cap hnc hv hB
  · obtain ⟨ad, rfl⟩ : ∃ ad, A = some ad := by
      cases news with
      | nil => simp at hl; omega
      | cons u us => obtain ⟨ad, h, _⟩ := hnews 0 u (by simp); exact ⟨ad, h⟩
    have hnews' : ∀ j u, news[j]? = some u → w.cell? (ad.add j) = some u := fun j u hu => by
      obtain ⟨ad', h, h2⟩ := hnews j u hu
      injection h with h; subst h; exact h2
    rcases hown with ⟨rfl, rfl⟩ | ⟨g, off, cap, cur, rfl, hh, hn, hfit, hcm, hcs⟩
    · have hr := run_append_nil (P := P) w t ty e i z ht hi0 hz0 ad m c news (by rw [hl, hi1, Nat.mul_one]) hnews' (by omega) (by omega) (by rw [hi2]; simp at hbytes; omega)
      refine ⟨_, _, hr, ?_, Upd.of_below ((below_drewN (Below.refl w.heap.size w) 1).alloc (Nat.le_refl _) _) _, fun k hk => .inr ?_⟩
      · refine .inr ⟨w.heap.size, 0, _, _, by rw [List.nil_append, hl], heap_alloc_new w.drew _, ?_, ?_, grownCap_le_maxLen w m 0 e (by unfold maxLen; simp at h63; omega), fun j u hu => ?_⟩
        · rw [List.nil_append, hl]; exact grownCap_ge w m 0 e
        · have := grownCap_ge w m 0 e
          simp only [Array.size_append, List.size_toArray, size_zeroCells, hz1, hl]; omega
        · rw [List.nil_append] at hu
          have hlt := (List.getElem?_eq_some_iff.1 hu).1
          rw [Nat.zero_add, Array.getElem?_append_left (by simpa using hlt)]
          simpa using hu
      · have : w.heap.size = k := by simpa [Value.ownBlock] using hk
        omega
    · have holds : ∀ j u, cs[j]? = some u → w.cell? ((⟨g, off, none⟩ : Addr).add j) = some u := fun j u hu => by
        rw [add_lit, cell_of_row w g _ cur e (0, 0) hh]; exact hcs j u hu
      by_cases hroom : cs.length + m ≤ cap
      · have hr := run_append_room_cells (P := P) w t ty e i ht hi0 g off cs.length cap ad m c news (by rw [hl, hi1, Nat.mul_one]) hnews' h1 hroom
          (fun j hj => by rw [hi1, Nat.mul_one, cell_of_row w g _ cur e (0, 0) hh, Array.getElem?_eq_getElem (by omega)]; rfl)
          (fun j hj => by simp [World.frozen?, hh])
        rw [hi1, Nat.mul_one] at hr
        refine ⟨_, _, hr, ?_, (setCells_upd news w _).mono fun k _ hk => by simp [Value.ownBlock]; exact hk.symm, fun k hk => .inl (by simpa [Value.ownBlock] using hk)⟩
        have hb : Blk w g e cur.toList := by unfold Blk; simpa using hh
        have hb2 := setCells_blk news (off + cs.length) hb (by simp; omega)
        refine .inr ⟨g, off, cap, _, by rw [List.length_append, hl], hb2, by rw [List.length_append]; omega, by simp; omega, hcm, fun j u hu => ?_⟩
        rw [List.getElem?_append] at hu
        simp only [List.getElem?_toArray]
        rw [List.append_assoc]
        split at hu
        · rename_i hlt
          rw [List.getElem?_append_left (by simp; omega), List.getElem?_take, if_pos (by omega)]
          simpa using hcs j u hu
        · rename_i hge
          have hlt := (List.getElem?_eq_some_iff.1 hu).1
          rw [List.getElem?_append_right (by simp; omega), List.getElem?_append_left (by simp; omega)]
          rw [← hu]; congr 1; simp; omega
      · have hr := run_append_grow (P := P) w t ty e i z ht hi0 hz0 ⟨g, off, none⟩ cs.length cap cs (by rw [hi1, Nat.mul_one]) holds ad m c news (by rw [hl, hi1, Nat.mul_one]) hnews' (by omega) (by omega) (growslice_fits (by omega) (by rw [hi2]; exact hbytes))
        refine ⟨_, _, hr, ?_, Upd.of_below ((below_drewN (Below.refl w.heap.size w) 1).alloc (Nat.le_refl _) _) _, fun k hk => .inr ?_⟩
        · refine .inr ⟨w.heap.size, 0, _, _, by rw [List.length_append, hl], heap_alloc_new w.drew _, ?_, ?_, grownCap_le_maxLen w _ cap e (by unfold maxLen; omega), fun j u hu => ?_⟩
          · rw [List.length_append, hl]; exact grownCap_ge w _ cap e
          · have := grownCap_ge w (cs.length + m) cap e
            simp only [Array.size_append, List.size_toArray, size_zeroCells, hz1, hl]; omega
          · have hlt := (List.getElem?_eq_some_iff.1 hu).1
            rw [Nat.zero_add, Array.getElem?_append_left (by simpa using hlt)]
            simpa using hu
        · have : w.heap.size = k := by simpa [Value.ownBlock] using hk
          omega
end
section
variable {P : Program} {ops : Array Oper} {rest : List Oper} {o : Oper} {a : Act} {w w0 : World} {Q : Exit → Act → World → Prop} {F : Nat → Prop} {L : List Ent}
theorem hs_append (hS : HS F w0 w L) (i : Nat) {e : TypeId} {v : Value} {cs : List Value} (hi : L[i]? = some (.os e v cs)) (hw : Region.wanted o (yielded ops a.tmps) = true) (s x : Operand) (t : TypeId)
    (ho : o.op = .call { callee := .builtin .append, args := #[s, x], argTypes := #[t, t] }) (bytes : Nat) (ht : P.underlying t = some (.slice e)) (hf : (P.info? e).map (fun i => (i.size, i.bytes)) = some (1, bytes)) (hz : (((P.info? e).bind (·.zero)).map (·.cells.size)) = some 1)
    (hs : a.eval s = v) (A : Option Addr) (m c : Nat) (hx : a.eval x = .slice A m c) (news : List Value) (hl : news.length = m) (hnews : ∀ j u, news[j]? = some u → ∃ ad, A = some ad ∧ w.cell? (ad.add j) = some u) (h1 : ∀ u ∈ news, u.oneCell' = true)
    (hbytes : (cs.length + m) * bytes ≤ 140737488355328) (h63 : cs.length + m ≤ 140737488355328) (d : Option Tmp) (hd : o.dst = d)
    (h : ∀ A' n' c' w', (cs ++ news).length = n' → n' ≤ c' → (A' = none → c' = 0) → HS F w0 w' (L.set i (.os e (.slice A' n' c') (cs ++ news))) → wpList P ops Q rest (a.put d (.slice A' n' c')) w') : wpList P ops Q (o :: rest) a w := by
  subst hd
  refine wpList_step fun K hK => ?_
  rw [if_pos hw]
  obtain ⟨v', w', hrun, ho', hu, hb⟩ := run_append_os (P := P) t o.type e bytes ht hf hz v cs (hS.os i hi) A m c news hl hnews h1 hbytes h63
  unfold Oper.wp execOp
  simp only [ho, resolve, invoke, builtin]
  simp [hs, hx, hrun]
  obtain ⟨A', c', rfl, h5, _, h6, _⟩ := ho'.parts
  exact hK _ _ (h A' _ c' w' rfl h5 h6 (hS.upd1 i hi hu _ ho' hb))
end
/-- An empty literal. -/
theorem hs_empty {P : Program} {ops : Array Oper} {rest : List Oper} {o : Oper} {a : Act} {w w0 : World} {Q : Exit → Act → World → Prop} {F : Nat → Prop} {L : List Ent} (hS : HS F w0 w L) (hw : Region.wanted o (yielded ops a.tmps) = true) (t e : TypeId) (ho : o.op = .buildSlice t 0 #[])
    (hu : P.underlying t = some (.slice e)) (hz : ((P.info? e).bind (·.zero)).isSome = true) (d : Option Tmp) (hd : o.dst = d)
    (h : ∀ g w', w.heap.size = g → Below w.heap.size w w' → HS F w0 w' (.os e (.slice (some ⟨g, 0, none⟩) 0 0) [] :: L) → wpList P ops Q rest (a.put d (.slice (some ⟨g, 0, none⟩) 0 0)) w') : wpList P ops Q (o :: rest) a w := by
  subst hd
  have hB : Below w.heap.size w (w.alloc (.cells (#[] : Array Value) e)) := (Below.refl _ _).alloc (Nat.le_refl _) _
  have hb : Blk (w.alloc (.cells (#[] : Array Value) e)) w.heap.size e [] := Blk.new w e []
  have h1 := h w.heap.size _ rfl hB (hS.push hB (.os e (.slice (some ⟨w.heap.size, 0, none⟩) 0 0) []) (OwnS.ofBlk hb (Nat.zero_le _)) (fun k hk => Nat.le_of_eq (by simpa [Ent.os, Value.ownBlock] using hk)))
  cases hie : P.info? e with
  | none => simp [hie] at hz
  | some ie =>
    refine wpList_step fun K hK => ?_
    rw [if_pos hw]
    have hrun : (Instr.buildSlice t 0 #[]).run P w = .ok (.slice (some ⟨w.heap.size, 0, none⟩) 0 0) (w.alloc (.cells (#[] : Array Value) e)) := by
      have e0 : ∀ f : Nat → Value, Array.map f (Array.range 0) = #[] := fun f => Array.eq_empty_of_size_eq_zero (by simp)
      simp [Instr.buildSlice, run_underlying hu, sizeOf, typeInfo, hie, Instr.fill, newRow, e0]
    unfold Oper.wp execOp
    simp [ho, hrun]
    exact hK _ _ h1
/-- A literal of one. -/
theorem hs_one {P : Program} {ops : Array Oper} {rest : List Oper} {o : Oper} {a : Act} {w w0 : World} {Q : Exit → Act → World → Prop} {F : Nat → Prop} {L : List Ent} (hS : HS F w0 w L) (hw : Region.wanted o (yielded ops a.tmps) = true) (t e : TypeId) (x : Operand) (ho : o.op = .buildSlice t 1 #[(0, x)])
    (hu : P.underlying t = some (.slice e)) (hf : (P.info? e).map (·.size) = some 1) (hz : (((P.info? e).bind (·.zero)).map (·.cells.size)) = some 1) (v : Value) (hv : a.eval x = v) (h1 : v.oneCell' = true) (d : Option Tmp) (hd : o.dst = d)
    (h : ∀ g w', w.heap.size = g → Below w.heap.size w w' → HS F w0 w' (.os e (.slice (some ⟨g, 0, none⟩) 1 1) [v] :: L) → wpList P ops Q rest (a.put d (.slice (some ⟨g, 0, none⟩) 1 1)) w') : wpList P ops Q (o :: rest) a w := by
  subst hd
  have hB : Below w.heap.size w (w.alloc (.cells (#[v] : Array Value) e)) := (Below.refl _ _).alloc (Nat.le_refl _) _
  have hb : Blk (w.alloc (.cells (#[v] : Array Value) e)) w.heap.size e [v] := Blk.new w e [v]
  have h2 := h w.heap.size _ rfl hB (hS.push hB (.os e (.slice (some ⟨w.heap.size, 0, none⟩) 1 1) [v]) (OwnS.ofBlk hb (by unfold maxLen; simp)) (fun k hk => Nat.le_of_eq (by simpa [Ent.os, Value.ownBlock] using hk)))
  have hc : v.cells = #[v] := by cases v <;> first | rfl | cases h1
  cases hie : P.info? e with
  | none => simp [hie] at hf
  | some ie =>
    have hsz : ie.size = 1 := by simpa [hie] using hf
    cases hzz : ie.zero with
    | none => simp [hie, hzz] at hz
    | some z =>
      have hz1 : z.cells.size = 1 := by simpa [hie, hzz] using hz
      refine wpList_step fun K hK => ?_
      rw [if_pos hw]
      refine wp_buildSlice t e 1 #[(0, x)] ho #[v] ie z hu hie hzz (by rw [hsz]; decide) (by rw [hsz]; decide) ?_ (hK _ _ h2)
      have e1 : ∀ xs : Array Value, xs.size = 1 → xs.setIfInBounds 0 v = #[v] := fun xs hx => by
        obtain ⟨y, rfl⟩ := Array.size_eq_one_iff.1 hx
        rfl
      simp [hsz, hv, Instr.fill, hc, e1]
theorem news_of_rd {w : World} {A : Option Addr} {k : IntKind} {xs : List Int} (h : Rd w A k xs) : ∀ j u, (ints k xs)[j]? = some u → ∃ ad, A = some ad ∧ w.cell? (ad.add j) = some u := fun j u hu => by
  have hlt := (List.getElem?_eq_some_iff.1 hu).1
  simp at hlt
  rw [ints_get k xs j hlt] at hu
  injection hu with hu
  subst hu
  rcases h with h | ⟨g, o, rfl, h⟩
  · subst h; simp at hlt
  · exact ⟨_, rfl, by rw [add_lit]; exact h j hlt⟩
theorem ints_one' (k : IntKind) (xs : List Int) : ∀ u ∈ ints k xs, u.oneCell' = true := fun u hu => by
  obtain ⟨y, _, rfl⟩ := List.mem_map.1 hu; rfl
/-- A fresh slice beside all that is there. -/
theorem HS.pushOwn {F : Nat → Prop} {w0 w w' : World} {L : List Ent} (h : HS F w0 w L) (hb : Below w.heap.size w w') {e : TypeId} {k : IntKind} {v : Value} {xs : List Int} (ho : Own w' w.heap.size e k v xs) : HS F w0 w' (.os e v (ints k xs) :: L) :=
  h.push hb _ ho.os fun j hj => ho.base_le j hj
theorem Own.partsL {w : World} {b m : Nat} {e : TypeId} {k : IntKind} {v : Value} {xs : List Int} (h : Own w b e k v xs) (hm : xs.length = m) : ∃ A c, v = .slice A m c ∧ m ≤ c ∧ (A = none → c = 0) := by
  subst hm
  obtain ⟨A, c, h1, h2, h3, _⟩ := h.parts
  exact ⟨A, c, h1, h2, h3⟩
end Go.Cour
/- A region that draws its order: reads; soft acts (they make memory, and leave all that is there); hard ones. -/
namespace Go.Cour
open Go.RowKit
theorem mem_iff {w : World} : ∀ {L : List Ent}, Mem w L ↔ (∀ e ∈ L, e.p w) ∧ L.Pairwise (fun e f => ∀ k, e.F k → ¬ f.F k)
  | [] => by simp [Mem]
  | e :: L => by
    simp only [Mem, mem_iff, List.mem_cons, List.pairwise_cons, forall_eq_or_imp]
    constructor
    · rintro ⟨h1, h2, h3, h4⟩; exact ⟨⟨h1, h3⟩, h2, h4⟩
    · rintro ⟨⟨h1, h3⟩, h2, h4⟩; exact ⟨h1, h2, h3, h4⟩
theorem Mem.perm {w : World} {L L' : List Ent} (h : Mem w L) (hp : L.Perm L') : Mem w L' := by
  rw [mem_iff] at h ⊢
  exact ⟨fun e he => h.1 e (hp.mem_iff.2 he), hp.pairwise h.2 fun {e f} hef k hf he => hef k he hf⟩
section
variable {F : Nat → Prop} {w0 w w' : World} {L L' E : List Ent}
theorem HS.perm (h : HS F w0 w L) (hp : L.Perm L') : HS F w0 w L' := ⟨h.upd, h.mem.perm hp, fun e he => h.own e (hp.mem_iff.2 he)⟩
theorem HS.sub (h : HS F w0 w L) (hs : L'.Sublist L) : HS F w0 w L' :=
  ⟨h.upd, mem_iff.2 ⟨fun e he => (mem_iff.1 h.mem).1 e (hs.mem he), (mem_iff.1 h.mem).2.sublist hs⟩, fun e he => h.own e (hs.mem he)⟩
theorem HS.drop2 (h : HS F w0 w (E ++ L)) : HS F w0 w L := h.sub (List.sublist_append_right _ _)
/-- New things beside all that is there. -/
theorem HS.beside (h : HS F w0 w L) (hb : Below w.heap.size w w') (hE : HS F w0 w' (E ++ L')) (hn : ∀ e ∈ E, ∀ k, e.F k → w.heap.size ≤ k) : HS F w0 w' (E ++ L) := by
  have h1 := h.below hb
  have hE1 := hE.sub (List.sublist_append_left E L')
  refine ⟨h1.upd, mem_iff.2 ⟨fun e he => ?_, List.pairwise_append.2 ⟨(mem_iff.1 hE1.mem).2, (mem_iff.1 h1.mem).2, fun e he f hf k hk hfk => ?_⟩⟩, fun e he => ?_⟩
  · rcases List.mem_append.1 he with he | he
    · exact (mem_iff.1 hE1.mem).1 e he
    · exact (mem_iff.1 h1.mem).1 e he
  · have := hn e he k hk; have := h.mem.lt hf k hfk; omega
  · rcases List.mem_append.1 he with he | he
    · exact hE1.own e he
    · exact h1.own e he
end
/-- A call that changes some of the things, and lays others in their place. -/
theorem HS.call {F G : Nat → Prop} {w0 w w' : World} {A B L : List Ent} (h : HS F w0 w (A ++ L)) (hc : HS G w w' B) (hG : ∀ k, G k → ∃ e ∈ A, e.F k) : HS F w0 w' (B ++ L) := by
  have hdis := (List.pairwise_append.1 (mem_iff.1 h.mem).2).2.2
  have hkeep : ∀ k, k < w.heap.size → ¬ G k → w'.heap[k]? = w.heap[k]? := hc.upd.block
  refine ⟨⟨hc.upd.os.trans h.upd.os, hc.upd.tape.trans h.upd.tape, hc.upd.output.trans h.upd.output, Nat.le_trans h.size hc.size, fun k hk hf => ?_⟩, mem_iff.2 ⟨fun e he => ?_, List.pairwise_append.2 ⟨(mem_iff.1 hc.mem).2, (mem_iff.1 h.drop2.mem).2, fun e he f hf k hk hfk => ?_⟩⟩, fun e he k hk => ?_⟩
  · refine (hkeep k (Nat.lt_of_lt_of_le hk h.size) fun hg => ?_).trans (h.upd.block k hk hf)
    obtain ⟨e, he, hek⟩ := hG k hg
    rcases h.own e (List.mem_append_left _ he) k hek with h1 | h1
    · exact hf h1
    · omega
  · rcases List.mem_append.1 he with he | he
    · exact (mem_iff.1 hc.mem).1 e he
    · refine e.kept ((mem_iff.1 h.mem).1 e (List.mem_append_right _ he)) fun k hk => hkeep k (h.mem.lt (List.mem_append_right _ he) k hk) fun hg => ?_
      obtain ⟨e', he', hek⟩ := hG k hg
      exact hdis e' he' e he k hek hk
  · rcases hc.own e he k hk with h1 | h1
    · obtain ⟨e', he', hek⟩ := hG k h1
      exact hdis e' he' f hf k hek hfk
    · have := h.mem.lt (List.mem_append_right _ hf) k hfk; omega
  · rcases List.mem_append.1 he with he | he
    · rcases hc.own e he k hk with h1 | h1
      · obtain ⟨e', he', hek⟩ := hG k h1
        exact h.own e' (List.mem_append_left _ he') k hek
      · exact .inr (Nat.le_trans h.size h1)
    · exact h.own e (List.mem_append_right _ he) k hk
/-- An operation's kind: 1 a soft act, 2 a hard one, 0 it reads. -/
def kdOf (sa hh : List Nat) (i : Nat) : Nat := if sa.contains i then 1 else if hh.contains i then 2 else 0
def okPair (sa hh : List Nat) (p i : Nat) : Bool := kdOf sa hh p == 0 || kdOf sa hh i == 0 || (kdOf sa hh p == 1 && kdOf sa hh i == 1)
section
variable (P : Program) (ops : Array Oper) (N : Act → World → Prop) (F : Nat → Prop) (w0 : World) (sa hh : List Nat) (K : Nat → Value → List Ent → Prop)
/-- What a soft act does. -/
def SoftQ (i : Nat) (L0 : List Ent) (w' : World) (u : Value) (w'' : World) : Prop := ∃ E, K i u E ∧ HS F w0 w'' (E ++ L0) ∧ Below w'.heap.size w' w'' ∧ ∀ e ∈ E, ∀ k, e.F k → w'.heap.size ≤ k
/-- The operations walked in the order of the text. -/
def wpS : List Ent → List Ent → List Nat → Act → Prop
  | L0, σ, [], a => ∀ w, HS F w0 w (σ ++ L0) → N a w
  | L0, σ, i :: rest, a => match ops[i]? with
    | none => False
    | some o =>
      if kdOf sa hh i = 0 then ∃ v, (∀ w', HS F w0 w' L0 → Rd1 P ops o a w' v) ∧ wpS L0 σ rest (a.put o.dst v)
      else if kdOf sa hh i = 1 then (∀ w', HS F w0 w' L0 → V1 P ops o a w' (SoftQ F w0 K i L0 w')) ∧ ∀ u E, K i u E → (∃ w, HS F w0 w (E ++ σ ++ L0)) → wpS L0 (E ++ σ) rest (a.put o.dst u)
      else ∀ w, HS F w0 w (σ ++ L0) → V1 P ops o a w fun u w' => if totB ops i then ∃ L1 σ', HS F w0 w' (σ' ++ L1) ∧ wpS L1 σ' rest (a.put o.dst u) else ∃ σ', HS F w0 w' (σ' ++ L0) ∧ wpS L0 σ' rest (a.put o.dst u)
def chkSOne (i : Nat) : Bool :=
  match ops[i]? with
  | none => true
  | some o => (o.after.all fun e => !Region.binds .any e || decide (e.on < i)) && !isSelect o.op &&
    (List.range i).all fun p => dirW ops i p || (match ops[p]? with | some q => q.apart ops o && okPair sa hh p i | none => true)
def chkS : Bool := (List.range ops.size).all (chkSOne ops sa hh)
structure ChkS : Prop where
  back : ∀ (i : Nat) (o : Oper), ops[i]? = some o → ∀ e ∈ o.after, Region.binds .any e = true → e.on < i
  sel : ∀ (i : Nat) (o : Oper), ops[i]? = some o → noSel o
  ahead : ∀ (i : Nat) (o : Oper), ops[i]? = some o → ∀ p q, p < i → ops[p]? = some q → waitsT ops 200 i p = true ∨ (q.apart ops o = true ∧ okPair sa hh p i = true)
end
section
variable {P : Program} {ops : Array Oper} {N : Act → World → Prop} {F : Nat → Prop} {w0 : World} {sa hh : List Nat} {K : Nat → Value → List Ent → Prop}
theorem chkS_spec (h : chkS ops sa hh = true) : ChkS ops sa hh := by
  have h1 : ∀ i o, ops[i]? = some o → ((o.after.all fun e => !Region.binds .any e || decide (e.on < i)) = true ∧ isSelect o.op = false) ∧
    ((List.range i).all fun p => dirW ops i p || (match ops[p]? with | some q => q.apart ops o && okPair sa hh p i | none => true)) = true := fun i o ho => by
    have := List.all_eq_true.1 h i (List.mem_range.2 (Array.getElem?_eq_some_iff.1 ho).1)
    unfold chkSOne at this
    simp only [ho, Bool.and_eq_true, Bool.not_eq_true'] at this
    exact this
  refine ⟨fun i o ho e he hb => ?_, fun i o ho cs b hs => ?_, fun i o ho p q hp hq => ?_⟩
  · have := Array.all_eq_true'.1 (h1 i o ho).1.1 e he
    simpa [hb] using this
  · have := (h1 i o ho).1.2
    rw [hs] at this
    simp [isSelect] at this
  · have := List.all_eq_true.1 (h1 i o ho).2 p (List.mem_range.2 hp)
    simp only [hq, Bool.or_eq_true, Bool.and_eq_true] at this
    rcases this with h2 | h2
    · exact .inl (dirW_waits h2)
    · exact .inr h2
theorem wpS_perm : ∀ (l : List Nat) {L0 σ σ' : List Ent} {a : Act}, wpS P ops N F w0 sa hh K L0 σ l a → σ.Perm σ' → wpS P ops N F w0 sa hh K L0 σ' l a
  | [], L0, σ, σ', a, h, hp => fun w hw => h w (hw.perm ((hp.symm).append_right _))
  | i :: rest, L0, σ, σ', a, h, hp => by
    simp only [wpS] at h ⊢
    cases ho : ops[i]? with
    | none => simp only [ho] at h
    | some o =>
      simp only [ho] at h ⊢
      split
      · rename_i h0
        rw [if_pos h0] at h
        obtain ⟨v, h1, h2⟩ := h
        exact ⟨v, h1, wpS_perm rest h2 hp⟩
      · rename_i h0
        rw [if_neg h0] at h
        split
        · rename_i h1
          rw [if_pos h1] at h
          refine ⟨h.1, fun u E hK ⟨w, hw⟩ => wpS_perm rest (h.2 u E hK ⟨w, hw.perm (((hp.symm).append_left E).append_right L0)⟩) (hp.append_left E)⟩
        · rename_i h1
          rw [if_neg h1] at h
          exact fun w hw => h w (hw.perm ((hp.symm).append_right _))
theorem wpS_pull (i : Nat) (o : Oper) (post : List Nat) (hi : ops[i]? = some o) (hso : noSel o) : ∀ (pre : List Nat) (L0 σ : List Ent) (a : Act), (∃ w, HS F w0 w (σ ++ L0)) → (pre ≠ [] → totB ops i = false) → (∀ j ∈ pre, totB ops j = false ∧ ∃ p, ops[j]? = some p ∧ p.apart ops o = true ∧ okPair sa hh j i = true ∧ noSel p) → wpS P ops N F w0 sa hh K L0 σ (pre ++ i :: post) a →
    wpS P ops N F w0 sa hh K L0 σ (i :: (pre ++ post)) a
  | [], L0, σ, a, _, _, _, h => h
  | j :: pre, L0, σ, a, hw, hti, hp, h => by
    obtain ⟨htj, p, hj, hap, hok, hsp⟩ := hp j (List.mem_cons_self ..)
    have hti' := hti (by simp)
    obtain ⟨s1, s2, s3⟩ := Oper.apart_spec hap
    have s4 : ∀ t, o.dst = some t → p.dst ≠ some t := fun t ht hpt => s2 t hpt ht
    have ih := fun σ a hw => wpS_pull i o post hi hso pre L0 σ a hw (fun _ => hti') (fun q hq => hp q (List.mem_cons_of_mem _ hq))
    simp only [List.cons_append, wpS, hj, hi, htj, hti', Bool.false_eq_true, if_false] at h ih ⊢
    obtain ⟨w, hw⟩ := hw
    have hwL := hw.drop2
    by_cases kp0 : kdOf sa hh j = 0
    · rw [if_pos kp0] at h
      obtain ⟨vp, hvp, h⟩ := h
      have h2 := ih σ _ ⟨w, hw⟩ h
      by_cases ko0 : kdOf sa hh i = 0
      · rw [if_pos ko0] at h2 ⊢
        obtain ⟨v, hv, h3⟩ := h2
        refine ⟨v, fun w' hw' => (Rd1.put vp s1 s2 hso).1 (hv w' hw'), ?_⟩
        rw [if_pos kp0]
        refine ⟨vp, fun w' hw' => (Rd1.put v s3 s4 hsp).2 (hvp w' hw'), ?_⟩
        rw [← Act.put_comm a vp v s2]; exact h3
      · rw [if_neg ko0] at h2 ⊢
        by_cases ko1 : kdOf sa hh i = 1
        · rw [if_pos ko1] at h2 ⊢
          refine ⟨fun w' hw' => (V1.put vp s1 hso).1 (h2.1 w' hw'), fun u E hK hx => ?_⟩
          rw [if_pos kp0]
          refine ⟨vp, fun w'' hw'' => (Rd1.put u s3 s4 hsp).2 (hvp w'' hw''), ?_⟩
          rw [← Act.put_comm a vp u s2]; exact h2.2 u E hK hx
        · rw [if_neg ko1] at h2 ⊢
          intro w1 hw1
          refine ((V1.put vp s1 hso).1 (h2 w1 hw1)).mono fun u w' ⟨σ', h3, h4⟩ => ⟨σ', h3, ?_⟩
          rw [if_pos kp0]
          refine ⟨vp, fun w'' hw'' => (Rd1.put u s3 s4 hsp).2 (hvp w'' hw''), ?_⟩
          rw [← Act.put_comm a vp u s2]; exact h4
    · rw [if_neg kp0] at h
      by_cases kp1 : kdOf sa hh j = 1
      · rw [if_pos kp1] at h
        obtain ⟨hv1, hk⟩ := h
        obtain ⟨u0, w1, E0, hK0, hE0, hb0, hn0⟩ := (hv1 w hwL).ex
        have hx0 : HS F w0 w1 (E0 ++ (σ ++ L0)) := hw.beside hb0 hE0 hn0
        have hx0' : ∃ w, HS F w0 w (E0 ++ σ ++ L0) := ⟨w1, by rw [List.append_assoc]; exact hx0⟩
        by_cases ko0 : kdOf sa hh i = 0
        · rw [if_pos ko0]
          have h5 := ih _ _ hx0' (hk u0 E0 hK0 hx0')
          rw [if_pos ko0] at h5
          obtain ⟨v0, hv0, _⟩ := h5
          refine ⟨v0, fun w' hw' => (Rd1.put u0 s1 s2 hso).1 (hv0 w' hw'), ?_⟩
          rw [if_neg kp0, if_pos kp1]
          refine ⟨fun w' hw' => (V1.put v0 s3 hsp).2 (hv1 w' hw'), fun u E hK hx => ?_⟩
          have h6 := ih _ _ hx (hk u E hK hx)
          rw [if_pos ko0] at h6
          obtain ⟨v, hv, h7⟩ := h6
          have hvv : a.put o.dst v = a.put o.dst v0 := ((Rd1.put u s1 s2 hso).1 (hv w hwL)).det ((Rd1.put u0 s1 s2 hso).1 (hv0 w hwL))
          rw [Act.put_comm a u v s2, hvv] at h7
          exact h7
        · rw [if_neg ko0]
          have ko1 : kdOf sa hh i = 1 := by
            unfold okPair at hok
            simp only [Bool.or_eq_true, Bool.and_eq_true, beq_iff_eq] at hok
            rcases hok with (h1 | h1) | h1
            · exact absurd h1 kp0
            · exact absurd h1 ko0
            · exact h1.2
          rw [if_pos ko1]
          have h5 := ih _ _ hx0' (hk u0 E0 hK0 hx0')
          rw [if_neg ko0, if_pos ko1] at h5
          refine ⟨fun w' hw' => (V1.put u0 s1 hso).1 (h5.1 w' hw'), fun v Eo hKo hxo => ?_⟩
          rw [if_neg kp0, if_pos kp1]
          refine ⟨fun w' hw' => (V1.put v s3 hsp).2 (hv1 w' hw'), fun u E hK ⟨w2, hw2⟩ => ?_⟩
          have hpm : (E ++ (Eo ++ σ)).Perm (Eo ++ (E ++ σ)) := by
            rw [← List.append_assoc, ← List.append_assoc]; exact List.perm_append_comm.append_right σ
          have hw3 : HS F w0 w2 (Eo ++ (E ++ σ) ++ L0) := hw2.perm (hpm.append_right L0)
          have hx : ∃ w, HS F w0 w (E ++ σ ++ L0) := ⟨w2, by rw [List.append_assoc Eo] at hw3; exact hw3.drop2⟩
          have h6 := ih _ _ hx (hk u E hK hx)
          rw [if_neg ko0, if_pos ko1] at h6
          have h7 := h6.2 v Eo hKo ⟨w2, hw3⟩
          rw [Act.put_comm a u v s2] at h7
          exact wpS_perm _ h7 hpm.symm
      · rw [if_neg kp1] at h
        have ko0 : kdOf sa hh i = 0 := by
          unfold okPair at hok
          simp only [Bool.or_eq_true, Bool.and_eq_true, beq_iff_eq] at hok
          rcases hok with (h1 | h1) | h1
          · exact absurd h1 kp0
          · exact h1
          · exact absurd h1.1 kp1
        rw [if_pos ko0]
        have h2 : ∀ w, HS F w0 w (σ ++ L0) → V1 P ops p a w fun u w' => ∃ σ', HS F w0 w' (σ' ++ L0) ∧ ∃ v, (∀ w'', HS F w0 w'' L0 → Rd1 P ops o a w'' v) ∧ wpS P ops N F w0 sa hh K L0 σ' (pre ++ post) ((a.put p.dst u).put o.dst v) := fun w1 hw1 => (h w1 hw1).mono fun u w' ⟨σ', h3, h4⟩ => by
          have h5 := ih _ _ ⟨w', h3⟩ h4
          rw [if_pos ko0] at h5
          obtain ⟨v, hv, h6⟩ := h5
          exact ⟨σ', h3, v, fun w'' hw'' => (Rd1.put u s1 s2 hso).1 (hv w'' hw''), h6⟩
        obtain ⟨u0, w1, σ0, hT0, v0, hv0, _⟩ := (h2 w hw).ex
        refine ⟨v0, hv0, ?_⟩
        rw [if_neg kp0, if_neg kp1]
        intro w2 hw2
        refine (V1.put v0 s3 hsp).2 ((h2 w2 hw2).mono fun u w' ⟨σ', h3, v, hv, h4⟩ => ⟨σ', h3, ?_⟩)
        rw [Act.put_comm a u v s2, (hv w' h3.drop2).det (hv0 w' h3.drop2)] at h4
        exact h4
theorem wpAny_S {Q : Exit → Act → World → Prop} (hN : ∀ a w, N a w → Q .normal a w) (hc : ChkS ops sa hh) : ∀ (fuel : Nat) (listed : Array Bool) (L0 σ : List Ent) (a : Act) (w : World), HS F w0 w (σ ++ L0) → listed.size = ops.size → Closed ops listed → (rem ops listed).length ≤ fuel →
    wpS P ops N F w0 sa hh K L0 σ (rem ops listed) a → wpAny P .any ops Q fuel listed a w := by
  have fin : ∀ (listed : Array Bool) (L0 σ : List Ent) (a : Act) (w : World), HS F w0 w (σ ++ L0) → listed.size = ops.size → Region.ready .any ops listed = [] → wpS P ops N F w0 sa hh K L0 σ (rem ops listed) a → Q .normal a w := fun listed L0 σ a w hw hl hr h => by
    have hall : ∀ n j, j < n → j < ops.size → listed.getD j false = true := fun n => by
      induction n with
      | zero => intro j hj; omega
      | succ n ih =>
        intro j hj hlt
        by_cases hjn : j < n
        · exact ih j hjn hlt
        · have hjn' : j = n := by omega
          subst hjn'
          cases hlj : listed.getD j false with
          | true => rfl
          | false =>
            have hun := getD_in (by rw [hl]; exact hlt) hlj
            have ho : ops[j]? = some ops[j] := Array.getElem?_eq_getElem hlt
            have : j ∈ Region.ready .any ops listed := mem_ready.2 ⟨hun, ops[j], ho, fun e he hb => ih e.on (hc.back j _ ho e he hb) (by have := hc.back j _ ho e he hb; omega)⟩
            rw [hr] at this
            cases this
    have hre : rem ops listed = [] := List.filter_eq_nil_iff.2 fun j hj => by
      have := hall (j + 1) j (by omega) (List.mem_range.1 hj)
      unfold unl
      cases h2 : listed.getD j true with
      | true => simp
      | false => rw [getD_both h2] at this; cases this
    rw [hre] at h
    exact hN _ _ (h w hw)
  intro fuel
  induction fuel with
  | zero =>
    intro listed L0 σ a w hT hl hcl hf h
    have hr : Region.ready .any ops listed = [] := by
      rcases hx : Region.ready .any ops listed with _ | ⟨i, l⟩
      · rfl
      · have hm : i ∈ Region.ready .any ops listed := by rw [hx]; exact List.mem_cons_self ..
        obtain ⟨hun, o, ho, _⟩ := mem_ready.1 hm
        have h1 : i ∈ rem ops listed := List.mem_filter.2 ⟨List.mem_range.2 (Array.getElem?_eq_some_iff.1 ho).1, by simp [unl, hun]⟩
        have h2 := List.length_eq_zero_iff.1 (Nat.le_zero.1 hf)
        rw [h2] at h1
        cases h1
    exact ⟨hr, fin listed L0 σ a w hT hl hr h⟩
  | succ fuel ih =>
    intro listed L0 σ a w hT hl hcl hf h
    refine ⟨fun hr => fin listed L0 σ a w hT hl hr h, fun i hir => ?_⟩
    obtain ⟨hun, o, ho, hall⟩ := mem_ready.1 hir
    have hlt := (Array.getElem?_eq_some_iff.1 ho).1
    have him : i ∈ rem ops listed := List.mem_filter.2 ⟨List.mem_range.2 hlt, by simp [unl, hun]⟩
    obtain ⟨s, t, hst⟩ := List.append_of_mem him
    have hpw : (s ++ i :: t).Pairwise (· < ·) := by
      rw [← hst]; exact List.Pairwise.filter _ List.pairwise_lt_range
    have hrem : rem ops (listed.setIfInBounds i true) = s ++ t := by
      rw [← filter_ne_mid hpw, ← hst]
      unfold rem
      rw [List.filter_filter]
      refine List.filter_congr fun j hj => ?_
      unfold unl
      by_cases hij : i = j
      · subst hij
        have h0 : i < listed.size := by rw [hl]; exact hlt
        simp [h0]
      · rw [getD_set_ne true hij]
        simp [Ne.symm hij]
    have hlate : ∀ k ∈ s, waitsT ops 200 i k = true → False := fun k hk hw => by
      have hki : k < i := (List.pairwise_append.1 hpw).2.2 k hk i (List.mem_cons_self ..)
      have hku : k ∈ rem ops listed := by rw [hst]; exact List.mem_append_left _ hk
      have hkun : listed.getD k true = false := by
        have := (List.mem_filter.1 hku).2
        simpa [unl] using this
      have : waitsT ops 200 i k = true := hw
      unfold waitsT at this
      rw [Bool.or_eq_true] at this
      rcases this with h3 | h3
      · have : i = k := by simpa using h3
        omega
      · simp only [ho] at h3
        obtain ⟨e, he, hb⟩ := Array.any_eq_true'.1 h3
        simp only [Bool.and_eq_true] at hb
        have h4 := hcl.waits hl 199 e.on k hb.2 (by have := hc.back i o ho e he hb.1; omega) (hall e he hb.1)
        rw [getD_both hkun] at h4
        cases h4
    have hpre : ∀ j ∈ s, totB ops j = false ∧ ∃ p, ops[j]? = some p ∧ p.apart ops o = true ∧ okPair sa hh j i = true ∧ noSel p := fun k hk => by
      have hki : k < i := (List.pairwise_append.1 hpw).2.2 k hk i (List.mem_cons_self ..)
      have hks : k < ops.size := by omega
      have hkp : ops[k]? = some ops[k] := Array.getElem?_eq_getElem hks
      refine ⟨?_, ops[k], hkp, ?_⟩
      · cases htk : totB ops k with
        | false => rfl
        | true => exact (hlate k hk ((totB_spec htk i hlt).2 hki)).elim
      · rcases hc.ahead i o ho k _ hki hkp with hw | ⟨h1, h2⟩
        · exact (hlate k hk hw).elim
        · exact ⟨h1, h2, hc.sel k _ hkp⟩
    have hti : s ≠ [] → totB ops i = false := fun hs => by
      cases hti : totB ops i with
      | false => rfl
      | true =>
        obtain ⟨k, hk⟩ := List.exists_mem_of_ne_nil s hs
        have hki : k < i := (List.pairwise_append.1 hpw).2.2 k hk i (List.mem_cons_self ..)
        exact (hlate k hk ((totB_spec hti k (by omega)).1 hki)).elim
    rw [hst] at h
    have hpull := wpS_pull i o t ho (hc.sel i o ho) s L0 σ a ⟨w, hT⟩ hti hpre h
    rw [← hrem] at hpull
    simp only [wpS, ho] at hpull
    have hcl' : Closed ops (listed.setIfInBounds i true) := fun j oj hj hl' e he hb => by
      by_cases hij : i = j
      · subst hij
        have : oj = o := Option.some.inj (hj.symm.trans ho)
        subst this
        exact getD_set_true (hall e he hb)
      · rw [getD_set_ne false hij] at hl'
        exact getD_set_true (hcl j oj hj hl' e he hb)
    have hlen : (rem ops (listed.setIfInBounds i true)).length ≤ fuel := by
      rw [hrem]; rw [hst] at hf; simp at hf ⊢; omega
    have next : ∀ (L1 σ' : List Ent) u w', HS F w0 w' (σ' ++ L1) → wpS P ops N F w0 sa hh K L1 σ' (rem ops (listed.setIfInBounds i true)) (a.put o.dst u) → wpAny P .any ops Q fuel (listed.setIfInBounds i true) (a.put o.dst u) w' := fun L1 σ' u w' hT' h' =>
      ih _ _ _ _ _ hT' (by simp [hl]) hcl' hlen h'
    unfold wpOp
    simp only [ho]
    by_cases ko0 : kdOf sa hh i = 0
    · rw [if_pos ko0] at hpull
      obtain ⟨v, hv, h2⟩ := hpull
      have h3 := hv w hT.drop2
      unfold Rd1 at h3
      split at h3 <;> rename_i hw
      · rw [if_pos hw]
        obtain ⟨u, h4, h5⟩ := h3
        refine .inl ?_
        unfold Oper.wp
        rw [h4]
        rw [← h5] at h2
        exact next L0 σ u w hT h2
      · rw [if_neg hw]
        rw [← h3] at h2
        exact next L0 σ _ w hT h2
    · rw [if_neg ko0] at hpull
      have hV : V1 P ops o a w fun u w' => ∃ L1 σ', HS F w0 w' (σ' ++ L1) ∧ wpS P ops N F w0 sa hh K L1 σ' (rem ops (listed.setIfInBounds i true)) (a.put o.dst u) := by
        by_cases ko1 : kdOf sa hh i = 1
        · rw [if_pos ko1] at hpull
          refine (hpull.1 w hT.drop2).mono fun u w' ⟨E, hK, hE, hb, hn⟩ => ?_
          have hx : HS F w0 w' (E ++ σ ++ L0) := by rw [List.append_assoc]; exact hT.beside hb hE hn
          exact ⟨L0, E ++ σ, hx, hpull.2 u E hK ⟨w', hx⟩⟩
        · rw [if_neg ko1] at hpull
          refine (hpull w hT).mono fun u w' hu => ?_
          split at hu
          · exact hu
          · obtain ⟨σ', h1, h2⟩ := hu; exact ⟨L0, σ', h1, h2⟩
      have nextA : ∀ u w', (∃ L1 σ', HS F w0 w' (σ' ++ L1) ∧ wpS P ops N F w0 sa hh K L1 σ' (rem ops (listed.setIfInBounds i true)) (a.put o.dst u)) → wpAny P .any ops Q fuel (listed.setIfInBounds i true) (a.put o.dst u) w' := fun u w' ⟨L1, σ', h1, h2⟩ => next L1 σ' u w' h1 h2
      unfold V1 at hV
      split at hV <;> rename_i hw
      · rw [if_pos hw]
        refine .inl ?_
        unfold Oper.wp
        revert hV
        cases (execOp a.eval o).run P w with
        | halt x w' => exact fun h => h.elim
        | ok n w' =>
          cases n <;> intro h <;> first | exact h.elim | exact nextA _ _ h | skip
          case enter f args =>
            refine Calls.mono h fun e w'' he => ?_
            obtain ⟨v, rfl, h1⟩ := he
            exact nextA v w'' h1
          case row row args => exact Rows.mono h fun u w'' hu => nextA u w'' hu
      · rw [if_neg hw]
        exact nextA _ w hV
/-- A region that draws its order. -/
theorem wp_region_S {id : Nat} {a : Act} {w : World} {Q : Exit → Act → World → Prop} (sa hh : List Nat) (K : Nat → Value → List Ent → Prop) {L0 : List Ent} (σ : List Ent) (hm : P.follows .mixedOrders = true) (hc : chkS ops sa hh = true) (h0 : HS F w0 w (σ ++ L0))
    (h : wpS P ops (fun a' w' => Q .normal a' w') F w0 sa hh K L0 σ (List.range ops.size) a) : (Code.region id ops true).wp P Q a w := by
  refine wp_region_any hm (wpAny_S (K := K) (N := fun a' w' => Q .normal a' w') (fun _ _ h => h) (chkS_spec hc) ops.size _ L0 σ a _ h0.drew (by simp) ?_ ?_ ?_)
  · intro j oj _ hl; rw [getD_replicate_false] at hl; cases hl
  · exact Nat.le_trans (List.length_filter_le _ _) (by simp)
  · have h1 : rem ops (Array.replicate ops.size false) = List.range ops.size := List.filter_eq_self.2 fun j hj => by
      simp [unl, Array.getD, List.mem_range.1 hj]
    rw [h1]; exact h
/-- One that reads. -/
theorem wpS_read {L0 σ : List Ent} {i : Nat} {o : Oper} {rest : List Nat} {a A : Act} (hi : ops[i]? = some o) (hk0 : kdOf sa hh i = 0) (hx : ∃ w, HS F w0 w L0) (hk : readK o.op = true) (h1 : ∀ w', HS F w0 w' L0 → wpList P ops (fun ex a' w'' => ex = .normal ∧ a' = A ∧ w'' = w') [o] a w') (h2 : wpS P ops N F w0 sa hh K L0 σ rest A) : wpS P ops N F w0 sa hh K L0 σ (i :: rest) a := by
  have hv : ∀ w', HS F w0 w' L0 → ∃ u, A = a.put o.dst u ∧ Rd1 P ops o a w' u := fun w' hw' => by
    have h := h1 w' hw'
    simp only [wpList] at h
    unfold Rd1
    split at h <;> rename_i hw
    · rcases h with h | ⟨_, _, _, hf, _⟩
      case inr => cases hf
      unfold Oper.wp at h
      cases hx : (execOp a.eval o).run P w' with
      | halt x w1 =>
        rw [hx] at h
        cases x <;> simp [Oper.upon] at h
      | ok n w1 =>
        obtain ⟨u, rfl⟩ := readK_value hk hx
        rw [hx] at h
        simp only [Oper.upon] at h
        obtain ⟨_, h3, h4⟩ := h
        subst h4
        exact ⟨u, h3.symm, by rw [if_pos hw]; exact ⟨u, rfl, rfl⟩⟩
    · exact ⟨undef, h.2.1.symm, by rw [if_neg hw]⟩
  obtain ⟨w, hw⟩ := hx
  obtain ⟨v, hA, _⟩ := hv w hw
  simp only [wpS, hi]
  rw [if_pos hk0]
  refine ⟨v, fun w' hw' => ?_, hA ▸ h2⟩
  obtain ⟨u, hu, hr⟩ := hv w' hw'
  have he : a.put o.dst u = a.put o.dst v := hu.symm.trans hA
  unfold Rd1 at *
  split at hr <;> rename_i hw
  · rw [if_pos hw]; obtain ⟨x, h3, h4⟩ := hr; exact ⟨x, h3, h4.trans he⟩
  · rw [if_neg hw]; exact hr.trans he
/-- What stands behind a soft act. -/
structure SoftP (F : Nat → Prop) (w0 : World) (K : Nat → Value → List Ent → Prop) (i : Nat) (L0 : List Ent) (t : Nat) (a : Act) (w : World) (ex : Exit) (a' : Act) (w' : World) : Prop where
  ex : ex = .normal
  defers : a'.defers = a.defers
  val : ∃ u E, a' = a.put (some t) u ∧ K i u E ∧ HS F w0 w' (E ++ L0) ∧ Below w.heap.size w w' ∧ ∀ e ∈ E, ∀ k, e.F k → w.heap.size ≤ k
theorem SoftP.mk' {i t : Nat} {L0 : List Ent} {a a' : Act} {w w' : World} (u : Value) (E : List Ent) (ha : a' = a.put (some t) u) (hK : K i u E) (hE : HS F w0 w' (E ++ L0)) (hb : Below w.heap.size w w') (hn : ∀ e ∈ E, ∀ k, e.F k → w.heap.size ≤ k) : SoftP F w0 K i L0 t a w .normal a' w' :=
  ⟨rfl, by rw [ha, put_defers], u, E, ha, hK, hE, hb, hn⟩
theorem wpS_soft {L0 σ : List Ent} {i t : Nat} {o : Oper} {rest : List Nat} {a : Act} (hi : ops[i]? = some o) (hk1 : kdOf sa hh i = 1) (hd : o.dst = some t) (ht : t < a.tmps.size) (h1 : ∀ w', HS F w0 w' L0 → wpList P ops (SoftP F w0 K i L0 t a w') [o] a w')
    (h2 : ∀ u E, K i u E → wpS P ops N F w0 sa hh K L0 (E ++ σ) rest (a.put (some t) u)) : wpS P ops N F w0 sa hh K L0 σ (i :: rest) a := by
  simp only [wpS, hi]
  rw [if_neg (by rw [hk1]; decide), if_pos hk1, hd]
  refine ⟨fun w' hw' => ?_, fun u E hK _ => h2 u E hK⟩
  refine (V1_of (K := fun a' w'' => ∃ u E, a' = a.put (some t) u ∧ K i u E ∧ HS F w0 w'' (E ++ L0) ∧ Below w'.heap.size w' w'' ∧ ∀ e ∈ E, ∀ k, e.F k → w'.heap.size ≤ k) ?_).mono fun u w'' hu => ?_
  · have h := h1 w' hw'
    have he : SoftP F w0 K i L0 t a w' = fun ex a' w'' => ex = .normal ∧ a'.defers = a.defers ∧ ∃ u E, a' = a.put (some t) u ∧ K i u E ∧ HS F w0 w'' (E ++ L0) ∧ Below w'.heap.size w' w'' ∧ ∀ e ∈ E, ∀ k, e.F k → w'.heap.size ≤ k := by
      funext ex a' w''
      exact propext ⟨fun h => ⟨h.1, h.2, h.3⟩, fun ⟨h1, h2, h3⟩ => ⟨h1, h2, h3⟩⟩
    rwa [he] at h
  · obtain ⟨u', E, he, hK, r⟩ := hu
    rw [hd] at he
    have h4 := put_same a t u ht
    rw [he, put_same a t u' ht] at h4
    injection h4 with h4
    subst h4
    exact ⟨E, hK, r⟩
/-- What stands behind a hard act. -/
structure HardP (P : Program) (ops : Array Oper) (N : Act → World → Prop) (F : Nat → Prop) (w0 : World) (sa hh : List Nat) (K : Nat → Value → List Ent → Prop) (L0 : List Ent) (rest : List Nat) (a : Act) (ex : Exit) (a' : Act) (w' : World) : Prop where
  ex : ex = .normal
  defers : a'.defers = a.defers
  val : ∃ σ', HS F w0 w' (σ' ++ L0) ∧ wpS P ops N F w0 sa hh K L0 σ' rest a'
structure TotP (P : Program) (ops : Array Oper) (N : Act → World → Prop) (F : Nat → Prop) (w0 : World) (sa hh : List Nat) (K : Nat → Value → List Ent → Prop) (rest : List Nat) (a : Act) (ex : Exit) (a' : Act) (w' : World) : Prop where
  ex : ex = .normal
  defers : a'.defers = a.defers
  val : ∃ L1 σ', HS F w0 w' (σ' ++ L1) ∧ wpS P ops N F w0 sa hh K L1 σ' rest a'
theorem HardP.mk' {L0 : List Ent} {rest : List Nat} {a a' : Act} {w' : World} (σ' : List Ent) (hd : a'.defers = a.defers) (h1 : HS F w0 w' (σ' ++ L0)) (h2 : wpS P ops N F w0 sa hh K L0 σ' rest a') : HardP P ops N F w0 sa hh K L0 rest a .normal a' w' := ⟨rfl, hd, σ', h1, h2⟩
theorem TotP.mk' {rest : List Nat} {a a' : Act} {w' : World} (L1 : List Ent) (hd : a'.defers = a.defers) (h1 : HS F w0 w' L1) (h2 : wpS P ops N F w0 sa hh K L1 [] rest a') : TotP P ops N F w0 sa hh K rest a .normal a' w' := ⟨rfl, hd, L1, [], h1, h2⟩
theorem wpS_hard {L0 σ : List Ent} {i : Nat} {o : Oper} {rest : List Nat} {a : Act} (hi : ops[i]? = some o) (hk2 : kdOf sa hh i = 2) (h1 : ∀ w, HS F w0 w (σ ++ L0) → wpList P ops (HardP P ops N F w0 sa hh K L0 rest a) [o] a w) : wpS P ops N F w0 sa hh K L0 σ (i :: rest) a := by
  simp only [wpS, hi]
  rw [if_neg (by rw [hk2]; decide), if_neg (by rw [hk2]; decide)]
  intro w hw
  refine (V1_of (K := fun a' w' => ∃ σ', HS F w0 w' (σ' ++ L0) ∧ wpS P ops N F w0 sa hh K L0 σ' rest a') ?_).mono fun u w' hu => ?_
  · have h := h1 w hw
    have he : HardP P ops N F w0 sa hh K L0 rest a = fun ex a' w' => ex = .normal ∧ a'.defers = a.defers ∧ ∃ σ', HS F w0 w' (σ' ++ L0) ∧ wpS P ops N F w0 sa hh K L0 σ' rest a' := by
      funext ex a' w''
      exact propext ⟨fun h => ⟨h.1, h.2, h.3⟩, fun ⟨h1, h2, h3⟩ => ⟨h1, h2, h3⟩⟩
    rwa [he] at h
  · split
    · obtain ⟨σ', h1, h2⟩ := hu; exact ⟨L0, σ', h1, h2⟩
    · exact hu
theorem wpS_tot {L0 σ : List Ent} {i : Nat} {o : Oper} {rest : List Nat} {a : Act} (hi : ops[i]? = some o) (hk2 : kdOf sa hh i = 2) (ht : totB ops i = true) (h1 : ∀ w, HS F w0 w (σ ++ L0) → wpList P ops (TotP P ops N F w0 sa hh K rest a) [o] a w) : wpS P ops N F w0 sa hh K L0 σ (i :: rest) a := by
  simp only [wpS, hi]
  rw [if_neg (by rw [hk2]; decide), if_neg (by rw [hk2]; decide)]
  intro w hw
  refine (V1_of (K := fun a' w' => ∃ L1 σ', HS F w0 w' (σ' ++ L1) ∧ wpS P ops N F w0 sa hh K L1 σ' rest a') ?_).mono fun u w' hu => ?_
  · have h := h1 w hw
    have he : TotP P ops N F w0 sa hh K rest a = fun ex a' w' => ex = .normal ∧ a'.defers = a.defers ∧ ∃ L1 σ', HS F w0 w' (σ' ++ L1) ∧ wpS P ops N F w0 sa hh K L1 σ' rest a' := by
      funext ex a' w''
      exact propext ⟨fun h => ⟨h.1, h.2, h.3⟩, fun ⟨h1, h2, h3⟩ => ⟨h1, h2, h3⟩⟩
    rwa [he] at h
  · rw [if_pos ht]; exact hu
theorem wpS_end {L0 σ : List Ent} {a : Act} (h : ∀ w, HS F w0 w (σ ++ L0) → N a w) : wpS P ops N F w0 sa hh K L0 σ [] a := h
end
end Go.Cour
/- s[p:h] of a slice, a slice's part read. -/
namespace Go.Cour
open Go.RowKit
section
variable {P : Program} {w : World} {ops : Array Oper} {rest : List Oper} {o : Oper} {a : Act} {Q : Exit → Act → World → Prop}
theorem slice_two (hw : Region.wanted o (yielded ops a.tmps) = true) (x y z : Operand) (t : TypeId) (ho : o.op = .slice t x (some y) (some z) none) (e : TypeId)
    (hu : P.underlying t = some (.slice e)) (hsz : (P.info? e).map (·.size) = some 1) (g off m c p h n : Nat) (hx : a.eval x = .slice (some ⟨g, off, none⟩) m c) (hy : a.eval y = .int .i64 (p : Int)) (hz : a.eval z = .int .i64 (h : Int)) (hph : p ≤ h) (hhc : h ≤ c) (hpc : p < c) (hn : h - p = n) (d : Option Tmp) (hd : o.dst = d)
    (hk : wpList P ops Q rest (a.put d (.slice (some ⟨g, off + p, none⟩) n (c - p))) w) : wpList P ops Q (o :: rest) a w := by
  subst hd hn
  obtain ⟨i, hi, hs⟩ : ∃ i, P.info? e = some i ∧ i.size = 1 := by
    cases hie : P.info? e with
    | none => simp [hie] at hsz
    | some i => exact ⟨i, rfl, by simpa [hie] using hsz⟩
  refine wpList_step fun K hK => ?_
  rw [if_pos hw]
  have hs2 : (sizeOf e).run P w = .ok 1 w := by simp [sizeOf, typeInfo, hi, hs]
  have hne : ¬ c = p := by omega
  have hrun : (Instr.slice t (.slice (some ⟨g, off, none⟩) m c) (some (.int .i64 (p : Int))) (some (.int .i64 (h : Int))) none).run P w = .ok (.slice (some ⟨g, off + p, none⟩) (h - p) (c - p)) w := by
    simp [Instr.slice, run_underlying hu, Instr.sliceBounds, run_sliceBound, hs2, hph, hhc, hne, add_lit]
  have hrun2 : (Instr.sliceAt t (.slice (some ⟨g, off, none⟩) m c) (some (.int .i64 (p : Int))) (some (.int .i64 (h : Int))) none).run P w = .ok (.slice (some ⟨g, off + p, none⟩) (h - p) (c - p)) w := by
    rw [← hrun]; simp [Instr.sliceAt, run_underlying hu]
  unfold Oper.wp execOp
  simp only [ho, hx, hy, hz, Option.map_some, Option.map_none]
  simp [hrun2]
  exact hK _ _ hk
end
end Go.Cour
/- A place of one's own slice written. -/
namespace Go.Cour
open Go.RowKit
section
variable {P : Program} {ops : Array Oper} {rest : List Oper} {o : Oper} {a : Act} {w w0 : World} {Q : Exit → Act → World → Prop} {F : Nat → Prop} {L : List Ent}
/-- A place of one's own slice stored. -/
theorem hs_storeS (hS : HS F w0 w L) (i : Nat) {e : TypeId} {g off n c : Nat} {cs : List Value} (hi : L[i]? = some (.os e (.slice (some ⟨g, off, none⟩) n c) cs)) (hw : Region.wanted o (yielded ops a.tmps) = true) (ty : TypeId) (x y : Operand) (ho : o.op = .store ty x y)
    (j : Nat) (hx : a.eval x = .pointer (some ⟨g, off + j, none⟩)) (v : Value) (hv : a.eval y = v) (h1 : v.oneCell' = true) (hs : (P.info? ty).map (·.size) = some 1) (hj : j < cs.length) (d : Option Tmp) (hd : o.dst = d)
    (h : ∀ w', HS F w0 w' (L.set i (.os e (.slice (some ⟨g, off, none⟩) n c) (cs.set j v))) → wpList P ops Q rest (a.put d undef) w') : wpList P ops Q (o :: rest) a w := by
  subst hd
  refine wpList_step fun K hK => ?_
  rw [if_pos hw]
  have hc : v.cells = #[v] := by cases v <;> first | rfl | cases h1
  have hos := hS.os i hi
  obtain ⟨A', c', hv', _, _, _, _, hcell⟩ := hos.parts
  obtain ⟨g', o', he, hcl⟩ := hcell j cs[j] (List.getElem?_eq_getElem hj)
  injection hv' with hv1
  rw [← hv1] at he
  injection he with he; injection he with he1 he2
  subst he1 he2
  have hfz := hos.frozen rfl (off + j)
  have hrun : (storeVar ty ⟨g, off + j, none⟩ v).run P w = .ok () (w.setCell ⟨g, off + j, none⟩ v) := by
    cases hq : P.info? ty with
    | none => simp [hq] at hs
    | some z =>
      have hz : z.size = 1 := by simpa [hq] using hs
      have := run_storeVar_mid (P := P) w g (off + j) ty #[v] (fun i hi => by
        have : i = 0 := by simpa using hi
        subst this
        exact ⟨by rw [Nat.add_zero, hcl]; rfl, by rw [Nat.add_zero]; exact hfz⟩) (by simp [hq, hz]) (by simpa using h1)
      have h2 : storeVar ty ⟨g, off + j, none⟩ v = storeVar ty ⟨g, off + j, none⟩ (.agg #[v]) := by
        have e1 : (Value.agg #[v]).cells = #[v] := rfl
        unfold storeVar
        rw [hc, e1]
      rw [h2, this]
      simp [World.setCells]
  unfold Oper.wp execOp
  simp only [ho, hx, hv, Instr.storeAt, Instr.sureAddr, Sem.run_bind, Sem.run_pure, Result.andThen_ok, hrun]
  exact hK _ _ (h _ (hS.upd1 i hi ((Upd.setCell w ⟨g, off + j, none⟩ v).mono fun k _ hk => by
    have : k = g := hk
    subst this; rfl) _ (hos.set rfl j v hj) (fun k hk => .inl hk)))
end
end Go.Cour
/- Bytes, as the program knows them. -/
namespace Go.Proofs.YtckcdngnkpfcfaaDoor
open Go.RowKit Go.Cour
theorem infoU8 : (Tryd.prog.info? 5).map (fun i => (i.zero, i.size, i.bytes)) = some (some (.int .u8 0), 1, 1) := by kernel_rfl
theorem undBytes : Tryd.prog.underlying 24 = some (.slice 5) := by kernel_rfl
end Go.Proofs.YtckcdngnkpfcfaaDoor
/- bits: a map of pieces: New, Size, Has, Count. -/
namespace Go.Proofs.YtckcdngnkpfcfaaDoor
open Go.RowKit Go.Cour
attribute [local go_sem] max2_int min2_int
theorem builtBitsS (n : Int) (A : Option Addr) (a c : Nat) : Tryd.prog.built 148 [(0, .int .i64 n), (1, .slice A a c)] = some #[.int .i64 n, .slice A a c] := by kernel_rfl
/-- What a map's memory holds. -/
def mapL (n k g gb : Nat) (bs : List Int) : List Ent := [.blk g 148 [.int .i64 n, .slice (some ⟨gb, 0, none⟩) k k], .os 5 (.slice (some ⟨gb, 0, none⟩) k k) (ints .u8 bs)]
set_option maxHeartbeats 400000 in
set_option maxRecDepth 100000 in
theorem bitsNew_calls (n k : Nat) (w : World) (hn : n ≤ 1000) (hk : (n + 7) / 8 = k) :
    Calls Tryd.prog 62 #[.int .i64 (n : Int)] w fun e w' => ∃ g gb, e = .returned (.pointer (some ⟨g, 0, none⟩)) ∧ HS NoF w w' (mapL n k g gb (List.replicate k 0)) := by
  have m1 : (if (n : Int) < 0 then (0 : Int) else n) = n := if_neg (by omega)
  have m2 : (if (1000 : Int) < n then (1000 : Int) else n) = n := if_neg (by omega)
  have e1 : ((n : Int) + 7) / 8 = (k : Int) := by omega
  have hk2 : k ≤ 200 := by omega
  have hS := HS.start NoF w
  clear hk
  go_enter Tryd.func62, Tryd.ntmps62
  go_wp2_with (first
    | (refine make_zeros rfl _ _ 24 rfl 5 .u8 1 undBytes infoU8 _ _ _ _ k rfl rfl e1 e1 (by omega) (by unfold maxLen; omega) ?_; intro gb wb hgb hob hBb
       replace hS := hS.push hBb (.os 5 (.slice (some ⟨gb, 0, none⟩) k k) (ints .u8 (List.replicate k 0))) hob.os (fun j hj => Nat.le_of_eq (hgb.trans (by simpa [Ent.os, Value.ownBlock] using hj)))
       clear hgb hob hBb)
    | (refine build_to rfl 148 _ rfl #[.int .i64 n, .slice (some ⟨gb, 0, none⟩) k k] (by rw [Array.toList_map]; exact builtBitsS _ _ _ _) ?_)
    | (refine box_blk rfl 148 _ rfl _ rfl [.int .i64 n, .slice (some ⟨gb, 0, none⟩) k k] rfl ?_; intro g w7 hga hba hBa hsa; replace hS := hS.pushBlk hBa hba hga; clear hga hba hBa hsa)
    | fail)

  go_ret
  exact ⟨g, gb, rfl, hS⟩
theorem bitsSize_calls (n : Int) (g : Nat) (w : World) (c0 : w.cell? ⟨g, 0, none⟩ = some (.int .i64 n)) :
    Calls Tryd.prog 91 #[.pointer (some ⟨g, 0, none⟩)] w fun e w' => e = .returned (.int .i64 n) ∧ w' = w := by
  go_enter Tryd.func91, Tryd.ntmps91
  go_wp2_with fail
  go_ret
  exact ⟨rfl, rfl⟩
/-- Whether piece i is there. -/
def hasAt (bs : List Int) (i : Nat) : Bool := decide (bits .and .u8 (rd bs (i / 8) / 2 ^ (i % 8)) 1 = 1)
set_option maxHeartbeats 400000 in
set_option maxRecDepth 100000 in
theorem bitsHas_calls (bs : List Int) (n k i g gb : Nat) (w : World) (hi : i < n) (hn : n ≤ 1000) (hk : (n + 7) / 8 = k) (hl : bs.length = k) (hb : bytesOk bs) (c0 : w.cell? ⟨g, 0, none⟩ = some (.int .i64 (n : Int))) (c1 : w.cell? ⟨g, 1, none⟩ = some (.slice (some ⟨gb, 0, none⟩) k k)) (cb : ∀ j, j < k → w.cell? ⟨gb, j, none⟩ = some (.int .u8 (rd bs j))) :
    Calls Tryd.prog 104 #[.pointer (some ⟨g, 0, none⟩), .int .i64 (i : Int)] w fun e w' => e = .returned (.bool (hasAt bs i)) ∧ w' = w := by
  obtain ⟨j, hj⟩ : ∃ j : Nat, i / 8 = j := ⟨_, rfl⟩
  obtain ⟨r, hr⟩ : ∃ r : Nat, i % 8 = r := ⟨_, rfl⟩
  have e1 : (i : Int) / 8 = (j : Int) := by omega
  have e2 : (i : Int) % 8 = (r : Int) := by omega
  have hjk : j < k := by omega
  have hr8 : r < 8 := by omega
  have h0 : (0 : Int) ≤ i := by omega
  have h1 : (i : Int) < n := by omega
  have cx := cb j hjk
  have HH : Hd (hasAt bs i = decide (bits .and .u8 (rd bs j / 2 ^ r) 1 = 1)) := hid (by unfold hasAt; rw [hj, hr])
  obtain ⟨x, hx⟩ : ∃ x, rd bs j = x := ⟨_, rfl⟩
  have hxb := hb j
  rw [hx] at cx HH hxb
  clear hj hr hx hb cb hk
  obtain ⟨hx0, hx1⟩ := hxb
  rw [HH.out]
  go_enter Tryd.func104, Tryd.ntmps104
  go_wp2_with fail
  go_ret
  exact ⟨rfl, rfl⟩
/-- How many of the first n are there. -/
def countB (bs : List Int) (n : Nat) : Nat := ((List.range n).filter (hasAt bs)).length
theorem countB_succ (bs : List Int) (n : Nat) : countB bs (n + 1) = countB bs n + (if hasAt bs n = true then 1 else 0) := by
  unfold countB
  rw [List.range_succ, List.filter_append, List.length_append]
  by_cases h : hasAt bs n = true <;> simp [h]
theorem hasAt_zeros (k i : Nat) : hasAt (List.replicate k 0) i = false := by
  unfold hasAt
  have h : rd (List.replicate k 0) (i / 8) = 0 := by
    unfold rd
    rw [List.getD_eq_getElem?_getD, List.getElem?_replicate]
    split <;> rfl
  rw [h, Int.zero_ediv]
  rfl
theorem countB_zeros (k : Nat) : ∀ n, countB (List.replicate k 0) n = 0
  | 0 => rfl
  | n + 1 => by rw [countB_succ, countB_zeros k n, hasAt_zeros]; rfl
set_option maxHeartbeats 400000 in
set_option maxRecDepth 100000 in
theorem bitsCount_calls (bs : List Int) (n k g gb : Nat) (w : World) (hn : n ≤ 1000) (hk : (n + 7) / 8 = k) (hl : bs.length = k) (hb : bytesOk bs) (c0 : w.cell? ⟨g, 0, none⟩ = some (.int .i64 (n : Int))) (c1 : w.cell? ⟨g, 1, none⟩ = some (.slice (some ⟨gb, 0, none⟩) k k)) (cb : ∀ j, j < k → w.cell? ⟨gb, j, none⟩ = some (.int .u8 (rd bs j))) :
    Calls Tryd.prog 90 #[.pointer (some ⟨g, 0, none⟩)] w fun e w' => e = .returned (.int .i64 (countB bs n : Nat)) ∧ w' = w := by
  have HK := hid hk
  have HL := hid hl
  have HB := hid hb
  have C1 := hid c1
  have CB := hid cb
  clear hk hl hb c1 cb
  go_enter Tryd.func90, Tryd.ntmps90
  go_wp2_with fail
  go_loopg [3, 9] (n + 1) (fun kq v3 v9 wr => ∃ i c : Nat, i ≤ n ∧ v3 = .int .i64 c ∧ v9 = .int .i64 i ∧ Hd (kq + i = n + 1) ∧ Hd (countB bs i = c) ∧ Hd (c ≤ i) ∧ wr = w)
  case atStart => exact ⟨0, 0, Nat.zero_le _, rfl, rfl, hid (by omega), hid rfl, hid (Nat.le_refl _), rfl⟩
  case round =>
    obtain ⟨i, c, hi, rfl, rfl, hq, hc, hci, rfl⟩ := hrel
    by_cases hlt : i < n
    · have hlt2 : (i : Int) < n := by omega
      have hcb := hci.out
      obtain ⟨B, hB⟩ : ∃ B, Hd (hasAt bs i = B) := ⟨_, hid rfl⟩
      have hsu := hid (countB_succ bs i)
      rw [hB.out, hc.out] at hsu
      cases B
      · go_wp2_with (first
          | (go_at_call 104; refine (bitsHas_calls bs n k i g gb _ hlt hn HK.out HL.out HB.out c0 C1.out CB.out).mono ?_; rintro e w6 ⟨rfl, rfl⟩; rw [hB.out])
          | fail)
        go_roundg (gk - 1)
        case measure => have := hq.out; omega
        case rel => exact ⟨i + 1, c, by omega, rfl, by go_num, hid (by have := hq.out; omega), hid (by rw [hsu.out]; rfl), hid (by omega), rfl⟩
      · go_wp2_with (first
          | (go_at_call 104; refine (bitsHas_calls bs n k i g gb _ hlt hn HK.out HL.out HB.out c0 C1.out CB.out).mono ?_; rintro e w6 ⟨rfl, rfl⟩; rw [hB.out])
          | fail)
        go_roundg (gk - 1)
        case measure => have := hq.out; omega
        case rel => exact ⟨i + 1, c + 1, by omega, by go_num, by go_num, hid (by have := hq.out; omega), hid (by rw [hsu.out]; rfl), hid (by omega), rfl⟩
    · obtain rfl : i = n := by omega
      have hlt2 : ¬ (i : Int) < i := by omega
      go_wp2_with fail
      go_ret
      exact ⟨by rw [hc.out]; rfl, rfl⟩
end Go.Proofs.YtckcdngnkpfcfaaDoor
/- stream.Count. -/
namespace Go.Proofs.YtckcdngnkpfcfaaDoor
open Go.RowKit Go.Cour
attribute [local go_sem] max2_int min2_int
/-- How many chunks: of whole ones, one more if they are too few, one at least. -/
def countD (p d e : Int) : Int := max (if e < p then d + 1 else d) 1
def countI (p q : Int) : Int := countD p (max p 0 / max q 1) (max p 0 / max q 1 * max q 1)
set_option maxHeartbeats 400000 in
theorem count_calls (p q : Int) (w : World) (hp : -1000000 ≤ p ∧ p ≤ 1000000) (hq : -1000000 ≤ q ∧ q ≤ 1000000) :
    Calls Tryd.prog 63 #[.int .i64 p, .int .i64 q] w fun e w' => e = .returned (.int .i64 (countI p q)) ∧ w' = w := by
  obtain ⟨c, hc⟩ : ∃ c : Int, c = max q 1 := ⟨_, rfl⟩
  obtain ⟨s, hs⟩ : ∃ s : Int, s = max p 0 := ⟨_, rfl⟩
  obtain ⟨d, hd⟩ : ∃ d : Int, d = s / c := ⟨_, rfl⟩
  obtain ⟨e, he⟩ : ∃ e : Int, e = d * c := ⟨_, rfl⟩
  have c1 : 1 ≤ c := by omega
  have c2 : c ≤ 1000000 := by omega
  have s1 : 0 ≤ s := by omega
  have s2 : s ≤ 1000000 := by omega
  have d0 : 0 ≤ d := hd ▸ Int.ediv_nonneg s1 (by omega)
  have d1 : d ≤ s := hd ▸ Int.ediv_le_self _ s1
  have e0 : 0 ≤ e := he ▸ Int.mul_nonneg d0 (by omega)
  have e1 : e ≤ s := he ▸ hd ▸ Int.ediv_mul_le _ (by omega)
  have hcount : countI p q = countD p d e := by rw [countI, ← hs, ← hc, ← hd, ← he]
  have m1 : (if q < 1 then (1 : Int) else q) = c := by split <;> omega
  have m2 : (if p < 0 then (0 : Int) else p) = s := by split <;> omega
  have w1 : wrap64 (s.tdiv c) = d := by rw [Int.tdiv_eq_ediv_of_nonneg s1, ← hd]; exact IntWalk.wrap64_in _ (by omega)
  have w2 : wrap64 (d * c) = e := by rw [← he]; exact IntWalk.wrap64_in _ (by omega)
  have w3 : wrap64 (d + 1) = d + 1 := by exact IntWalk.wrap64_in _ (by omega)
  rw [hcount]
  have w6 : d = 0 → e = 0 := fun h => by rw [he, h, Int.zero_mul]
  have w0 : p < 0 → s = 0 ∧ d = 0 ∧ e = 0 := fun h => by
    have : s = 0 := by omega
    subst this
    have : d = 0 := by rw [hd, Int.zero_ediv]
    subst this
    exact ⟨rfl, rfl, by rw [he, Int.zero_mul]⟩
  have w4 : 0 ≤ p → p / c = d := fun h => by rw [hd]; congr 1; omega
  clear hcount hd he hs hc
  unfold countD
  by_cases h0 : 0 ≤ p
  · have w5 := w4 h0
    clear w0 w4
    by_cases hlt : e < p
    · by_cases h1 : 1 ≤ d
      · have m3 : max (if e < p then d + 1 else d) 1 = d + 1 := by rw [if_pos hlt]; omega
        rw [m3]
        go_enter Tryd.func63, Tryd.ntmps63
        go_wp2_with fail
        go_ret
        exact ⟨rfl, rfl⟩
      · obtain rfl : d = 0 := by omega
        obtain rfl := w6 rfl
        have m3 : max (if 0 < p then (0 : Int) + 1 else 0) 1 = 1 := by rw [if_pos hlt]; omega
        rw [m3]
        go_enter Tryd.func63, Tryd.ntmps63
        go_wp2_with fail
        go_ret
        exact ⟨rfl, rfl⟩
    · by_cases h1 : 1 ≤ d
      · have m3 : max (if e < p then d + 1 else d) 1 = d := by rw [if_neg hlt]; omega
        rw [m3]
        go_enter Tryd.func63, Tryd.ntmps63
        go_wp2_with fail
        go_ret
        exact ⟨rfl, rfl⟩
      · obtain rfl : d = 0 := by omega
        obtain rfl := w6 rfl
        have m3 : max (if 0 < p then (0 : Int) + 1 else 0) 1 = 1 := by rw [if_neg hlt]; omega
        rw [m3]
        go_enter Tryd.func63, Tryd.ntmps63
        go_wp2_with fail
        go_ret
        exact ⟨rfl, rfl⟩
  · obtain ⟨rfl, rfl, rfl⟩ := w0 (by omega)
    clear w0 w4 w6
    have m3 : max (if (0 : Int) < p then (0 : Int) + 1 else 0) 1 = 1 := by rw [if_neg (by omega)]; omega
    rw [m3]
    go_enter Tryd.func63, Tryd.ntmps63
    go_wp2_with fail
    go_ret
    exact ⟨rfl, rfl⟩
end Go.Proofs.YtckcdngnkpfcfaaDoor
/- A desc's cells. -/
namespace Go.Proofs.YtckcdngnkpfcfaaDoor
open Go.RowKit Go.Cour
/-- A desc's cells. -/
def descC (id m q : Int) (key root blob : List Int) : List Value := [.int .u32 id, .int .u32 m, .int .u32 q] ++ ints .u8 key ++ ints .u8 root ++ ints .u8 blob
theorem descC_length {id m q : Int} {key root blob : List Int} (hk : key.length = 32) (hr : root.length = 32) (hb : blob.length = 32) : (descC id m q key root blob).length = 99 := by simp [descC, hk, hr, hb]
theorem descC_one (id m q : Int) (key root blob : List Int) : ∀ v ∈ descC id m q key root blob, v.oneCell' = true := fun v hv => by
  unfold descC at hv
  simp only [List.mem_append, List.mem_cons, List.not_mem_nil, or_false] at hv
  rcases hv with (((rfl | rfl | rfl) | hv) | hv) | hv
  · rfl
  · rfl
  · rfl
  · exact ints_one' _ _ v hv
  · exact ints_one' _ _ v hv
  · exact ints_one' _ _ v hv
theorem sizeDesc : (Tryd.prog.info? 32).map (·.size) = some 99 := by kernel_rfl
theorem undDesc : ∃ fs, Tryd.prog.underlying 32 = some (.struct fs) := ⟨_, Tryd.underlying32⟩
end Go.Proofs.YtckcdngnkpfcfaaDoor
/- download: New. -/
namespace Go.Proofs.YtckcdngnkpfcfaaDoor
open Go.RowKit Go.Cour
/-- A download's cells. -/
def downC (D : List Value) (leaves : Value) (held : Bool) (there whole : Value) (tr wt : Int) : List Value := D ++ [leaves, .bool held, there, whole, .int .i64 tr, .int .i64 wt]
theorem builtDown (id m q : Int) (key root blob : List Int) (hk : key.length = 32) (hr : root.length = 32) (hb : blob.length = 32) (g : Nat) (gw n c : Nat) : Tryd.prog.built 122 [(0, .agg (descC id m q key root blob).toArray), (3, .pointer (some ⟨g, 0, none⟩)), (4, .slice (some ⟨gw, 0, none⟩) n c)] = some (downC (descC id m q key root blob) (.slice none 0 0) false (.pointer (some ⟨g, 0, none⟩)) (.slice (some ⟨gw, 0, none⟩) n c) 0 0).toArray := by
  match key, hk with
  | [x0, x1, x2, x3, x4, x5, x6, x7, x8, x9, x10, x11, x12, x13, x14, x15, x16, x17, x18, x19, x20, x21, x22, x23, x24, x25, x26, x27, x28, x29, x30, x31], _ =>
    match root, hr with
    | [y0, y1, y2, y3, y4, y5, y6, y7, y8, y9, y10, y11, y12, y13, y14, y15, y16, y17, y18, y19, y20, y21, y22, y23, y24, y25, y26, y27, y28, y29, y30, y31], _ =>
      match blob, hb with
      | [z0, z1, z2, z3, z4, z5, z6, z7, z8, z9, z10, z11, z12, z13, z14, z15, z16, z17, z18, z19, z20, z21, z22, z23, z24, z25, z26, z27, z28, z29, z30, z31], _ => change _ = _; kernel_rfl
theorem desc_at1 (id m q : Int) (key root blob : List Int) : (descC id m q key root blob)[1]? = some (.int .u32 m) := by simp [descC]
theorem desc_at2 (id m q : Int) (key root blob : List Int) : (descC id m q key root blob)[2]? = some (.int .u32 q) := by simp [descC]
set_option maxHeartbeats 1000000 in
set_option maxRecDepth 100000 in
theorem dnew_calls (id : Int) (m q N k : Nat) (key root blob : List Int) (w : World) (hk : key.length = 32) (hr : root.length = 32) (hb : blob.length = 32) (hm : m ≤ 600) (hq : 1 ≤ q ∧ q ≤ 64) (hN : countI m q = (N : Int)) (hN2 : N ≤ 1000) (hk2 : (N + 7) / 8 = k) :
    Calls Tryd.prog 30 #[.agg (descC id m q key root blob).toArray] w fun e w' => ∃ gd g gb gw, e = .returned (.pointer (some ⟨gd, 0, none⟩)) ∧
      HS NoF w w' ([.blk gd 122 (downC (descC id m q key root blob) (.slice none 0 0) false (.pointer (some ⟨g, 0, none⟩)) (.slice (some ⟨gw, 0, none⟩) m m) 0 0), .os 5 (.slice (some ⟨gw, 0, none⟩) m m) (ints .u8 (List.replicate m 0))] ++ mapL N k g gb (List.replicate k 0)) := by
  have HK := hid hk
  have HR := hid hr
  have HB := hid hb
  have HN := hid hN
  have HK2 := hid hk2
  have hS := HS.start NoF w
  clear hk hr hb hN hk2
  obtain ⟨hq1, hq2⟩ := hq
  have hDL : Hd ((descC id m q key root blob).length = 99) := hid (descC_length HK.out HR.out HB.out)
  have hD1 : Hd ((descC id m q key root blob)[1]? = some (.int .u32 (m : Int))) := hid (desc_at1 _ _ _ _ _ _)
  have hD2 : Hd ((descC id m q key root blob)[2]? = some (.int .u32 (q : Int))) := hid (desc_at2 _ _ _ _ _ _)
  have hBD := fun g gw n c => builtDown id m q key root blob HK.out HR.out HB.out g gw n c
  have HBD := hid hBD
  clear hBD
  generalize descC id m q key root blob = D at *
  go_enter Tryd.func30, Tryd.ntmps30
  go_wp2_with (first
    | (refine box_blk rfl 32 _ rfl _ rfl D rfl ?_; intro g1 w1 hga hba hBa hsa; replace hS := hS.pushBlk hBa hba hga; clear hga hba hBa hsa)
    | fail)
  try go_wp2_with fail
  refine wp_region_S (F := NoF) (w0 := w) (L0 := [.blk g1 32 D]) [7, 8, 11] [13]
    (fun iK u E => match iK with
      | 7 => u = .int .i64 (N : Int) ∧ E = []
      | 8 => ∃ g gb, u = .pointer (some ⟨g, 0, none⟩) ∧ E = [.blk g 148 [.int .i64 N, .slice (some ⟨gb, 0, none⟩) k k], .os 5 (.slice (some ⟨gb, 0, none⟩) k k) (ints .u8 (List.replicate k 0))]
      | 11 => ∃ gw, u = .slice (some ⟨gw, 0, none⟩) m m ∧ E = [.os 5 (.slice (some ⟨gw, 0, none⟩) m m) (ints .u8 (List.replicate m 0))]
      | _ => False)
    ([]) (by kernel_rfl) (by kernel_rfl) hS ?_
  show wpS _ _ _ _ _ _ _ _ _ _ [0, 1, 2, 3, 4, 5, 6, 7, 8, 9, 10, 11, 12, 13, 14] _
  apply wpS_read (i := 0) rfl rfl ⟨_, hS⟩ rfl -- Op.load 32 t1
  · intro w' hT'
    simp only [List.getElem_toArray, List.getElem_cons_zero, List.getElem_cons_succ]
    have c1 : w'.cell? ⟨g1, 1, none⟩ = some (.int .u32 (m : Int)) := (hT'.cell 0 rfl 1).trans hD1.out
    have c2 : w'.cell? ⟨g1, 2, none⟩ = some (.int .u32 (q : Int)) := (hT'.cell 0 rfl 2).trans hD2.out
    go_wp2_with (first
      | (refine hs_loadW hT' 0 rfl rfl 32 _ rfl rfl 99 sizeDesc hDL.out _ undDesc.choose_spec rfl _ rfl ?_)
      | (refine build_to rfl 122 _ rfl (downC D (.slice none 0 0) false (.pointer (some ⟨g, 0, none⟩)) (.slice (some ⟨gw, 0, none⟩) m m) 0 0).toArray (by rw [Array.toList_map]; exact HBD.out g gw m m) ?_)
      | fail)
    first | exact ⟨rfl, rfl, rfl⟩ | rfl
  apply wpS_read (i := 1) rfl rfl ⟨_, hS⟩ rfl -- Op.fieldAddr 32 t1 1
  · intro w' hT'
    simp only [List.getElem_toArray, List.getElem_cons_zero, List.getElem_cons_succ]
    go_wp2_with fail
    first | exact ⟨rfl, rfl, rfl⟩ | rfl
  apply wpS_read (i := 2) rfl rfl ⟨_, hS⟩ rfl -- Op.load 29 t4
  · intro w' hT'
    simp only [List.getElem_toArray, List.getElem_cons_zero, List.getElem_cons_succ]
    have c1 : w'.cell? ⟨g1, 1, none⟩ = some (.int .u32 (m : Int)) := (hT'.cell 0 rfl 1).trans hD1.out
    have c2 : w'.cell? ⟨g1, 2, none⟩ = some (.int .u32 (q : Int)) := (hT'.cell 0 rfl 2).trans hD2.out
    go_wp2_with (first
      | (refine hs_loadW hT' 0 rfl rfl 32 _ rfl rfl 99 sizeDesc hDL.out _ undDesc.choose_spec rfl _ rfl ?_)
      | (refine build_to rfl 122 _ rfl (downC D (.slice none 0 0) false (.pointer (some ⟨g, 0, none⟩)) (.slice (some ⟨gw, 0, none⟩) m m) 0 0).toArray (by rw [Array.toList_map]; exact HBD.out g gw m m) ?_)
      | fail)
    first | exact ⟨rfl, rfl, rfl⟩ | rfl
  apply wpS_read (i := 3) rfl rfl ⟨_, hS⟩ rfl -- Op.convert 29 3 t5
  · intro w' hT'
    simp only [List.getElem_toArray, List.getElem_cons_zero, List.getElem_cons_succ]
    go_wp2_with (first
      | (refine hs_loadW hT' 0 rfl rfl 32 _ rfl rfl 99 sizeDesc hDL.out _ undDesc.choose_spec rfl _ rfl ?_)
      | (refine build_to rfl 122 _ rfl (downC D (.slice none 0 0) false (.pointer (some ⟨g, 0, none⟩)) (.slice (some ⟨gw, 0, none⟩) m m) 0 0).toArray (by rw [Array.toList_map]; exact HBD.out g gw m m) ?_)
      | fail)
    first | exact ⟨rfl, rfl, rfl⟩ | rfl
  apply wpS_read (i := 4) rfl rfl ⟨_, hS⟩ rfl -- Op.fieldAddr 32 t1 2
  · intro w' hT'
    simp only [List.getElem_toArray, List.getElem_cons_zero, List.getElem_cons_succ]
    go_wp2_with fail
    first | exact ⟨rfl, rfl, rfl⟩ | rfl
  apply wpS_read (i := 5) rfl rfl ⟨_, hS⟩ rfl -- Op.load 29 t7
  · intro w' hT'
    simp only [List.getElem_toArray, List.getElem_cons_zero, List.getElem_cons_succ]
    have c1 : w'.cell? ⟨g1, 1, none⟩ = some (.int .u32 (m : Int)) := (hT'.cell 0 rfl 1).trans hD1.out
    have c2 : w'.cell? ⟨g1, 2, none⟩ = some (.int .u32 (q : Int)) := (hT'.cell 0 rfl 2).trans hD2.out
    go_wp2_with (first
      | (refine hs_loadW hT' 0 rfl rfl 32 _ rfl rfl 99 sizeDesc hDL.out _ undDesc.choose_spec rfl _ rfl ?_)
      | (refine build_to rfl 122 _ rfl (downC D (.slice none 0 0) false (.pointer (some ⟨g, 0, none⟩)) (.slice (some ⟨gw, 0, none⟩) m m) 0 0).toArray (by rw [Array.toList_map]; exact HBD.out g gw m m) ?_)
      | fail)
    first | exact ⟨rfl, rfl, rfl⟩ | rfl
  apply wpS_read (i := 6) rfl rfl ⟨_, hS⟩ rfl -- Op.convert 29 3 t8
  · intro w' hT'
    simp only [List.getElem_toArray, List.getElem_cons_zero, List.getElem_cons_succ]
    go_wp2_with (first
      | (refine hs_loadW hT' 0 rfl rfl 32 _ rfl rfl 99 sizeDesc hDL.out _ undDesc.choose_spec rfl _ rfl ?_)
      | (refine build_to rfl 122 _ rfl (downC D (.slice none 0 0) false (.pointer (some ⟨g, 0, none⟩)) (.slice (some ⟨gw, 0, none⟩) m m) 0 0).toArray (by rw [Array.toList_map]; exact HBD.out g gw m m) ?_)
      | fail)
    first | exact ⟨rfl, rfl, rfl⟩ | rfl
  refine wpS_soft (i := 7) rfl rfl rfl (Nat.le_of_ble_eq_true rfl) ?_ ?_ -- Op.call { value (Operand.func 63), args := #[t6, t9], argTypes := #[
  · intro w' hT
    simp only [List.getElem_toArray, List.getElem_cons_zero, List.getElem_cons_succ]
    go_wp2_with (first
      | (go_at_call 63; refine (count_calls (m : Int) (q : Int) _ (by omega) (by omega)).mono ?_; rintro e w6 ⟨rfl, rfl⟩; rw [HN.out])
      | fail)
    exact SoftP.mk' (.int .i64 (N : Int)) ([]) rfl (⟨rfl, rfl⟩) (hT) (Below.refl _ _) (fun _ h => by cases h)
  intro u7 E7 hK7
  obtain ⟨rfl, rfl⟩ := hK7
  simp only [Act.put, List.setIfInBounds_toArray, List.set_cons_zero, List.set_cons_succ]
  refine wpS_soft (i := 8) rfl rfl rfl (Nat.le_of_ble_eq_true rfl) ?_ ?_ -- Op.call { value (Operand.func 62), args := #[t10], argTypes := #[3] 
  · intro w' hT
    simp only [List.getElem_toArray, List.getElem_cons_zero, List.getElem_cons_succ]
    go_wp2_with (first
      | (go_at_call 62; refine (bitsNew_calls N k _ hN2 HK2.out).mono ?_; rintro e w6 ⟨g, gb, rfl, hB6⟩)
      | fail)
    exact SoftP.mk' (.pointer (some ⟨g, 0, none⟩)) ([.blk g 148 [.int .i64 N, .slice (some ⟨gb, 0, none⟩) k k], .os 5 (.slice (some ⟨gb, 0, none⟩) k k) (ints .u8 (List.replicate k 0))]) rfl (⟨g, gb, rfl, rfl⟩) (HS.call (A := []) hT hB6 (fun _ h => False.elim h)) (hB6.bel) (fun e he j hj => (hB6.own e he j hj).resolve_left (fun h => h))
  intro u8 E8 hK8
  obtain ⟨g, gb, rfl, rfl⟩ := hK8
  simp only [Act.put, List.setIfInBounds_toArray, List.set_cons_zero, List.set_cons_succ]
  apply wpS_read (i := 9) rfl rfl ⟨_, hS⟩ rfl -- Op.fieldAddr 32 t1 1
  · intro w' hT'
    simp only [List.getElem_toArray, List.getElem_cons_zero, List.getElem_cons_succ]
    go_wp2_with fail
    first | exact ⟨rfl, rfl, rfl⟩ | rfl
  apply wpS_read (i := 10) rfl rfl ⟨_, hS⟩ rfl -- Op.load 29 t12
  · intro w' hT'
    simp only [List.getElem_toArray, List.getElem_cons_zero, List.getElem_cons_succ]
    have c1 : w'.cell? ⟨g1, 1, none⟩ = some (.int .u32 (m : Int)) := (hT'.cell 0 rfl 1).trans hD1.out
    have c2 : w'.cell? ⟨g1, 2, none⟩ = some (.int .u32 (q : Int)) := (hT'.cell 0 rfl 2).trans hD2.out
    go_wp2_with (first
      | (refine hs_loadW hT' 0 rfl rfl 32 _ rfl rfl 99 sizeDesc hDL.out _ undDesc.choose_spec rfl _ rfl ?_)
      | (refine build_to rfl 122 _ rfl (downC D (.slice none 0 0) false (.pointer (some ⟨g, 0, none⟩)) (.slice (some ⟨gw, 0, none⟩) m m) 0 0).toArray (by rw [Array.toList_map]; exact HBD.out g gw m m) ?_)
      | fail)
    first | exact ⟨rfl, rfl, rfl⟩ | rfl
  refine wpS_soft (i := 11) rfl rfl rfl (Nat.le_of_ble_eq_true rfl) ?_ ?_ -- Op.makeSlice 24 t13 t13
  · intro w' hT
    simp only [List.getElem_toArray, List.getElem_cons_zero, List.getElem_cons_succ]
    have c1 : w'.cell? ⟨g1, 1, none⟩ = some (.int .u32 (m : Int)) := (hT.cell 0 rfl 1).trans hD1.out
    go_wp2_with (first
      | (refine make_zeros rfl _ _ 24 rfl 5 .u8 1 undBytes infoU8 _ _ _ _ m rfl rfl rfl rfl (by omega) (by unfold maxLen; omega) ?_; intro gw wb hgb hob hBb)
      | fail)
    exact SoftP.mk' (.slice (some ⟨gw, 0, none⟩) m m) ([.os 5 (.slice (some ⟨gw, 0, none⟩) m m) (ints .u8 (List.replicate m 0))]) rfl (⟨gw, rfl, rfl⟩) (hT.push hBb _ hob.os (fun j hj => Nat.le_of_eq (hgb.trans (by simpa [Ent.os, Value.ownBlock] using hj)))) (hBb) (fun e he j hj => by obtain rfl := List.mem_singleton.1 he; exact Nat.le_of_eq (hgb.trans (by simpa [Ent.os, Value.ownBlock] using hj)))
  intro u11 E11 hK11
  obtain ⟨gw, rfl, rfl⟩ := hK11
  simp only [Act.put, List.setIfInBounds_toArray, List.set_cons_zero, List.set_cons_succ]
  apply wpS_read (i := 12) rfl rfl ⟨_, hS⟩ rfl -- Op.build 122 #[(0, t3), (3, t11), (4, t14)]
  · intro w' hT'
    simp only [List.getElem_toArray, List.getElem_cons_zero, List.getElem_cons_succ]
    go_wp2_with (first
      | (refine hs_loadW hT' 0 rfl rfl 32 _ rfl rfl 99 sizeDesc hDL.out _ undDesc.choose_spec rfl _ rfl ?_)
      | (refine build_to rfl 122 _ rfl (downC D (.slice none 0 0) false (.pointer (some ⟨g, 0, none⟩)) (.slice (some ⟨gw, 0, none⟩) m m) 0 0).toArray (by rw [Array.toList_map]; exact HBD.out g gw m m) ?_)
      | fail)
    first | exact ⟨rfl, rfl, rfl⟩ | rfl
  refine wpS_hard (i := 13) rfl rfl ?_ -- Op.box 122 t15
  intro w13 hT
  replace hT : HS NoF w w13 [.os 5 (.slice (some ⟨gw, 0, none⟩) m m) (ints .u8 (List.replicate m 0)), .blk g 148 [.int .i64 N, .slice (some ⟨gb, 0, none⟩) k k], .os 5 (.slice (some ⟨gb, 0, none⟩) k k) (ints .u8 (List.replicate k 0)), .blk g1 32 D] := hT
  simp only [List.getElem_toArray, List.getElem_cons_zero, List.getElem_cons_succ]
  go_wp2_with (first
    | (refine box_blk rfl 122 _ rfl _ rfl (downC D (.slice none 0 0) false (.pointer (some ⟨g, 0, none⟩)) (.slice (some ⟨gw, 0, none⟩) m m) 0 0) rfl ?_; intro gd wz hga hba hBa hsa)
    | fail)
  refine HardP.mk' ([.blk gd 122 (downC D (.slice none 0 0) false (.pointer (some ⟨g, 0, none⟩)) (.slice (some ⟨gw, 0, none⟩) m m) 0 0), .os 5 (.slice (some ⟨gw, 0, none⟩) m m) (ints .u8 (List.replicate m 0)), .blk g 148 [.int .i64 N, .slice (some ⟨gb, 0, none⟩) k k], .os 5 (.slice (some ⟨gb, 0, none⟩) k k) (ints .u8 (List.replicate k 0))]) rfl ?_ ?_
  · exact hT.pushBlk hBa hba hga
  clear hT
  clear hga hba hBa hsa
  apply wpS_read (i := 14) rfl rfl ⟨_, hS⟩ rfl -- Op.assign t16
  · intro w' hT'
    simp only [List.getElem_toArray, List.getElem_cons_zero, List.getElem_cons_succ]
    go_wp2_with fail
    first | exact ⟨rfl, rfl, rfl⟩ | rfl
  refine wpS_end ?_
  intro wz hT
  try dsimp only
  clear hS
  have hS : HS NoF w wz [.blk gd 122 (downC D (.slice none 0 0) false (.pointer (some ⟨g, 0, none⟩)) (.slice (some ⟨gw, 0, none⟩) m m) 0 0), .os 5 (.slice (some ⟨gw, 0, none⟩) m m) (ints .u8 (List.replicate m 0)), .blk g 148 [.int .i64 N, .slice (some ⟨gb, 0, none⟩) k k], .os 5 (.slice (some ⟨gb, 0, none⟩) k k) (ints .u8 (List.replicate k 0))] := hT.sub (List.sublist_append_left _ _)
  clear hT
  go_wp2_with fail
  go_ret
  exact ⟨gd, g, gb, gw, rfl, hS⟩
end Go.Proofs.YtckcdngnkpfcfaaDoor
/- Clone: a copy. -/
namespace Go.Proofs.YtckcdngnkpfcfaaDoor
open Go.RowKit Go.Cour
set_option maxHeartbeats 2000000 in
set_option maxRecDepth 100000 in
theorem clone_calls (A : Option Addr) (m c : Nat) (xs : List Int) (w : World) (hm : m = xs.length) (hA : A = none → c = 0) (hr : Rd w A .u8 xs) (hl : xs.length ≤ 1000000000) :
    Calls Tryd.prog 80 #[.slice A m c] w fun e w' => ∃ v, e = .returned v ∧ Own w' w.heap.size 5 .u8 v xs ∧ Below w.heap.size w w' := by
  subst hm
  cases A with
  | none =>
    obtain rfl := hA rfl
    have hx : xs = [] := by
      rcases hr with hr | ⟨g, o, he, _⟩
      · exact hr
      · cases he
    subst hx
    have he := fun w => Lib.run_eql_slice_nil (P := Tryd.prog) w 24 5 none 0 0 0 0 undBytes
    go_enter Tryd.func80, Tryd.ntmps80
    go_wp2
    go_ret
    exact ⟨_, rfl, Own.nil _ _ _ _, Below.refl _ _⟩
  | some ad =>
    have HR := hid hr
    clear hr hA
    have he := fun w => Lib.run_eql_slice_nil (P := Tryd.prog) w 24 5 (some ad) xs.length c 0 0 undBytes
    go_enter Tryd.func80, Tryd.ntmps80
    have ho : Own (w.alloc (.cells (ints .u8 []).toArray 5)) w.heap.size 5 .u8 (.slice (some ⟨w.heap.size, 0, none⟩) ([] : List Int).length ([] : List Int).length) [] := Own.ofBlk (Blk.new w 5 (ints .u8 [])) (Nat.le_refl _) (by simp)
    go_wp2_with (at_builtin; refine append_list rfl (.tmp 5) (.tmp 6) 24 rfl w.heap.size 5 .u8 1 undBytes infoU8 _ [] rfl ho (some ad) xs.length c xs rfl rfl (by simp) (HR.out.alloc _) (by simp; omega) (by simp; omega) (by simp) ?_; intro v' w1 ho' hg')
    go_ret
    exact ⟨_, rfl, ho', ho.grown_below ((Below.refl _ _).alloc (Nat.le_refl _) _) hg' (by simp) (Nat.le_refl _)⟩
end Go.Proofs.YtckcdngnkpfcfaaDoor
/- download: Have, Whole of one. -/
namespace Go.Proofs.YtckcdngnkpfcfaaDoor
open Go.RowKit Go.Cour
set_option maxHeartbeats 400000 in
set_option maxRecDepth 100000 in
theorem dwhole_calls (xs : List Int) (gd m c : Nat) (A : Option Addr) (w : World) (ct : w.cell? ⟨gd, 102, none⟩ = some (.slice A m c)) (hm : m = xs.length) (hA : A = none → c = 0) (hr : Rd w A .u8 xs) (hl : xs.length ≤ 1000000) :
    Calls Tryd.prog 66 #[.pointer (some ⟨gd, 0, none⟩)] w fun e w' => ∃ v, e = .returned v ∧ Own w' w.heap.size 5 .u8 v xs ∧ Below w.heap.size w w' := by
  have HM := hid hm
  have HA := hid hA
  have HR := hid hr
  clear hm hA hr
  go_enter Tryd.func66, Tryd.ntmps66
  go_wp2_with (first
    | (go_at_call 80; refine (clone_calls A m c xs _ HM.out HA.out HR.out (by omega)).mono ?_; rintro e w6 ⟨v, rfl, ho, hB⟩)
    | fail)
  go_ret
  exact ⟨_, rfl, ho, hB⟩
set_option maxHeartbeats 400000 in
set_option maxRecDepth 100000 in
theorem dhave_calls (bs : List Int) (n k g gb gd : Nat) (w : World) (ct : w.cell? ⟨gd, 101, none⟩ = some (.pointer (some ⟨g, 0, none⟩))) (hn : n ≤ 1000) (hk : (n + 7) / 8 = k) (hl : bs.length = k) (hb : bytesOk bs) (c0 : w.cell? ⟨g, 0, none⟩ = some (.int .i64 (n : Int))) (c1 : w.cell? ⟨g, 1, none⟩ = some (.slice (some ⟨gb, 0, none⟩) k k)) (cb : ∀ j, j < k → w.cell? ⟨gb, j, none⟩ = some (.int .u8 (rd bs j))) :
    Calls Tryd.prog 64 #[.pointer (some ⟨gd, 0, none⟩)] w fun e w' => e = .returned (.tuple #[.int .i64 (countB bs n : Nat), .int .i64 (n : Int)]) ∧ Below w.heap.size w w' := by
  have HK := hid hk
  have HL := hid hl
  have HB := hid hb
  have CT := hid ct
  have C0 := hid c0
  have C1 := hid c1
  have CB := hid cb
  have hS := HS.start NoF w
  obtain ⟨C, hC⟩ : ∃ C : Nat, Hd (countB bs n = C) := ⟨_, hid rfl⟩
  rw [hC.out]
  clear ct c0 c1 cb hb hl hk
  go_enter Tryd.func64, Tryd.ntmps64
  go_wp2_with fail
  try go_wp2_with fail
  refine wp_region_S (F := NoF) (w0 := w) (L0 := []) [4, 9] []
    (fun iK u E => match iK with
      | 4 => u = .int .i64 ((C : Nat)) ∧ E = []
      | 9 => u = .int .i64 ((n : Nat)) ∧ E = []
      | _ => False)
    ([]) (by kernel_rfl) (by kernel_rfl) hS ?_
  show wpS _ _ _ _ _ _ _ _ _ _ [0, 1, 2, 3, 4, 5, 6, 7, 8, 9, 10, 11] _
  apply wpS_read (i := 0) rfl rfl ⟨_, hS⟩ rfl -- Op.move t0
  · intro w' hT'
    simp only [List.getElem_toArray, List.getElem_cons_zero, List.getElem_cons_succ]
    go_wp2_with fail
    first | exact ⟨rfl, rfl, rfl⟩ | rfl
  apply wpS_read (i := 1) rfl rfl ⟨_, hS⟩ rfl -- Op.nilCheck t4
  · intro w' hT'
    simp only [List.getElem_toArray, List.getElem_cons_zero, List.getElem_cons_succ]
    go_wp2_with fail
    first | exact ⟨rfl, rfl, rfl⟩ | rfl
  apply wpS_read (i := 2) rfl rfl ⟨_, hS⟩ rfl -- Op.fieldAddr 122 t5 3
  · intro w' hT'
    simp only [List.getElem_toArray, List.getElem_cons_zero, List.getElem_cons_succ]
    go_wp2_with fail
    first | exact ⟨rfl, rfl, rfl⟩ | rfl
  apply wpS_read (i := 3) rfl rfl ⟨_, hS⟩ rfl -- Op.load 119 t6
  · intro w' hT'
    simp only [List.getElem_toArray, List.getElem_cons_zero, List.getElem_cons_succ]
    have ck := hT'.oldCell CT.out (fun h => h)
    go_wp2_with fail
    first | exact ⟨rfl, rfl, rfl⟩ | rfl
  refine wpS_soft (i := 4) rfl rfl rfl (Nat.le_of_ble_eq_true rfl) ?_ ?_ -- Op.call { value (Operand.func 90), args := #[t7], argTypes := #[119]
  · intro w' hT
    simp only [List.getElem_toArray, List.getElem_cons_zero, List.getElem_cons_succ]
    go_wp2_with (first
      | (go_at_call 90; refine (bitsCount_calls bs n k g gb _ hn HK.out HL.out HB.out (hT.oldCell C0.out (fun h => h)) (hT.oldCell C1.out (fun h => h)) (fun j hj => hT.oldCell (CB.out j hj) (fun h => h))).mono ?_; rintro e w6 ⟨rfl, rfl⟩; rw [hC.out])
      | fail)
    exact SoftP.mk' (.int .i64 ((C : Nat))) ([]) rfl (⟨rfl, rfl⟩) (hT) (Below.refl _ _) (fun _ h => by cases h)
  intro u4 E4 hK4
  obtain ⟨rfl, rfl⟩ := hK4
  simp only [Act.put, List.setIfInBounds_toArray, List.set_cons_zero, List.set_cons_succ]
  apply wpS_read (i := 5) rfl rfl ⟨_, hS⟩ rfl -- Op.move t0
  · intro w' hT'
    simp only [List.getElem_toArray, List.getElem_cons_zero, List.getElem_cons_succ]
    go_wp2_with fail
    first | exact ⟨rfl, rfl, rfl⟩ | rfl
  apply wpS_read (i := 6) rfl rfl ⟨_, hS⟩ rfl -- Op.nilCheck t9
  · intro w' hT'
    simp only [List.getElem_toArray, List.getElem_cons_zero, List.getElem_cons_succ]
    go_wp2_with fail
    first | exact ⟨rfl, rfl, rfl⟩ | rfl
  apply wpS_read (i := 7) rfl rfl ⟨_, hS⟩ rfl -- Op.fieldAddr 122 t10 3
  · intro w' hT'
    simp only [List.getElem_toArray, List.getElem_cons_zero, List.getElem_cons_succ]
    go_wp2_with fail
    first | exact ⟨rfl, rfl, rfl⟩ | rfl
  apply wpS_read (i := 8) rfl rfl ⟨_, hS⟩ rfl -- Op.load 119 t11
  · intro w' hT'
    simp only [List.getElem_toArray, List.getElem_cons_zero, List.getElem_cons_succ]
    have ck := hT'.oldCell CT.out (fun h => h)
    go_wp2_with fail
    first | exact ⟨rfl, rfl, rfl⟩ | rfl
  refine wpS_soft (i := 9) rfl rfl rfl (Nat.le_of_ble_eq_true rfl) ?_ ?_ -- Op.call { value (Operand.func 91), args := #[t12], argTypes := #[119
  · intro w' hT
    simp only [List.getElem_toArray, List.getElem_cons_zero, List.getElem_cons_succ]
    go_wp2_with (first
      | (go_at_call 91; refine (bitsSize_calls (n : Int) g _ (hT.oldCell C0.out (fun h => h))).mono ?_; rintro e w6 ⟨rfl, rfl⟩)
      | fail)
    exact SoftP.mk' (.int .i64 ((n : Nat))) ([]) rfl (⟨rfl, rfl⟩) (hT) (Below.refl _ _) (fun _ h => by cases h)
  intro u9 E9 hK9
  obtain ⟨rfl, rfl⟩ := hK9
  simp only [Act.put, List.setIfInBounds_toArray, List.set_cons_zero, List.set_cons_succ]
  apply wpS_read (i := 10) rfl rfl ⟨_, hS⟩ rfl -- Op.assign t8
  · intro w' hT'
    simp only [List.getElem_toArray, List.getElem_cons_zero, List.getElem_cons_succ]
    go_wp2_with fail
    first | exact ⟨rfl, rfl, rfl⟩ | rfl
  apply wpS_read (i := 11) rfl rfl ⟨_, hS⟩ rfl -- Op.assign t13
  · intro w' hT'
    simp only [List.getElem_toArray, List.getElem_cons_zero, List.getElem_cons_succ]
    go_wp2_with fail
    first | exact ⟨rfl, rfl, rfl⟩ | rfl
  refine wpS_end ?_
  intro wz hT
  try dsimp only
  clear hS
  have hS : HS NoF w wz [] := hT
  clear hT
  go_wp2_with fail
  refine bodyPost_ret (Go.Cour.results_tmp2 rfl _ _ rfl rfl) rfl ⟨rfl, hS.bel⟩
end Go.Proofs.YtckcdngnkpfcfaaDoor
/- table: a row's cells; ended. -/
namespace Go.Proofs.YtckcdngnkpfcfaaDoor
open Go.RowKit Go.Cour
/-- A row's cells. -/
def rowC (id kind state : Int) (D : List Value) (blob : Value) (up : List Value) (down : Value) : List Value := [.int .i64 id, .int .i64 kind, .int .i64 state] ++ D ++ [blob] ++ up ++ [down]
theorem sizeRow : (Tryd.prog.info? 70).map (·.size) = some 108 := by kernel_rfl
set_option maxHeartbeats 400000 in
set_option maxRecDepth 100000 in
theorem tended_calls (R : List Value) (state : Int) (w : World) (h2 : R[2]? = some (.int .i64 state)) :
    Calls Tryd.prog 65 #[.agg R.toArray] w fun e w' => e = .returned (.bool (state != 1 && state != 2)) ∧ Below w.heap.size w w' := by
  have H2 := hid h2
  have hS := HS.start NoF w
  clear h2
  by_cases a1 : state = 1
  · subst a1
    go_enter Tryd.func65, Tryd.ntmps65
    go_wp2_with (first
      | (refine box_blk rfl 70 _ rfl _ rfl R rfl ?_; intro g1 w1 hga hba hBa hsa; replace hS := hS.pushBlk hBa hba hga; clear hga hba hBa hsa; have c2 : w1.cell? ⟨g1, 2, none⟩ = some (.int .i64 1) := (hS.cell 0 rfl 2).trans H2.out)
      | fail)
    go_ret
    exact ⟨rfl, hS.bel⟩
  · go_enter Tryd.func65, Tryd.ntmps65
    go_wp2_with (first
      | (refine box_blk rfl 70 _ rfl _ rfl R rfl ?_; intro g1 w1 hga hba hBa hsa; replace hS := hS.pushBlk hBa hba hga; clear hga hba hBa hsa; have c2 : w1.cell? ⟨g1, 2, none⟩ = some (.int .i64 state) := (hS.cell 0 rfl 2).trans H2.out)
      | fail)
    go_ret
    exact ⟨rfl, hS.bel⟩
end Go.Proofs.YtckcdngnkpfcfaaDoor
/- table: Told, End. -/
namespace Go.Proofs.YtckcdngnkpfcfaaDoor
open Go.RowKit Go.Cour
theorem results_strR {P : Program} {fn : Func} {p : Tmp} {ty : TypeId} (h : fn.results = #[.cell p ty]) (tmps : Array Value) (w : World) (g : Nat) (t : TypeId) (cs : List Value) (fs : _)
    (hp : tmps.getD p undef = .pointer (some ⟨g, 0, none⟩)) (hg : Blk w g t cs)
    (hu : P.underlying ty = some (.struct fs)) (hi : (P.info? ty).map (·.size) = some cs.length) :
    (results fn tmps).run P w = .ok (.agg cs.toArray) w :=
  results_cell_row h tmps w g t cs.toArray (0, 0) _ hp hg hu rfl (by rw [hi]; simp)
/-- A transfer, as it is told. -/
def moveC (id kind state size h a : Int) : List Value := [.int .i64 id, .int .i64 kind, .int .i64 state, .int .i64 size, .int .i64 h, .int .i64 a]
theorem moveC_one (id kind state size h a : Int) : ∀ v ∈ moveC id kind state size h a, v.oneCell' = true := fun v hv => by
  simp only [moveC, List.mem_cons, List.not_mem_nil, or_false] at hv
  rcases hv with rfl | rfl | rfl | rfl | rfl | rfl <;> rfl
theorem sizeMove : (Tryd.prog.info? 72).map (·.size) = some 6 := by kernel_rfl
theorem zeroMove : ((Tryd.prog.info? 72).bind (·.zero)).map (·.cells) = some (moveC 0 0 0 0 0 0).toArray := by kernel_rfl
theorem sizeIntM : (Tryd.prog.info? 3).map (·.size) = some 1 := by kernel_rfl
theorem undMove : ∃ fs, Tryd.prog.underlying 72 = some (.struct fs) := ⟨_, Tryd.underlying72⟩
theorem undRow : ∃ fs, Tryd.prog.underlying 70 = some (.struct fs) := ⟨_, Tryd.underlying70⟩
theorem builtMove4 (a b c d : Int) : Tryd.prog.built 72 [(0, .int .i64 a), (1, .int .i64 b), (2, .int .i64 c), (3, .int .i64 d)] = some (moveC a b c d 0 0).toArray := by kernel_rfl
set_option maxHeartbeats 1000000 in
set_option maxRecDepth 100000 in
theorem told_down (R : List Value) (id kind state : Int) (m : Nat) (bs : List Int) (n k g gb gd : Nat) (w : World) (hl : R.length = 108) (h0 : R[0]? = some (.int .i64 id)) (h1 : R[1]? = some (.int .i64 kind)) (h2 : R[2]? = some (.int .i64 state)) (h4 : R[4]? = some (.int .u32 (m : Int))) (hm : m ≤ 600) (h107 : R[107]? = some (.pointer (some ⟨gd, 0, none⟩))) (ct : w.cell? ⟨gd, 101, none⟩ = some (.pointer (some ⟨g, 0, none⟩))) (hn : n ≤ 1000) (hk : (n + 7) / 8 = k) (hbl : bs.length = k) (hb : bytesOk bs) (c0 : w.cell? ⟨g, 0, none⟩ = some (.int .i64 (n : Int))) (c1 : w.cell? ⟨g, 1, none⟩ = some (.slice (some ⟨gb, 0, none⟩) k k)) (cb : ∀ j, j < k → w.cell? ⟨gb, j, none⟩ = some (.int .u8 (rd bs j))) :
    Calls Tryd.prog 31 #[.agg R.toArray] w fun e w' => e = .returned (.agg (moveC id kind state m (countB bs n : Nat) n).toArray) ∧ Below w.heap.size w w' := by
  have HL := hid hl
  have H0 := hid h0
  have H1 := hid h1
  have H2 := hid h2
  have H4 := hid h4
  have H107 := hid h107
  have HK := hid hk
  have HBL := hid hbl
  have HB := hid hb
  have CT := hid ct
  have C0 := hid c0
  have C1 := hid c1
  have CB := hid cb
  obtain ⟨C, hC⟩ : ∃ C : Nat, Hd (countB bs n = C) := ⟨_, hid rfl⟩
  rw [hC.out]
  clear h107 hk hbl hb ct c0 c1 cb
  have hS := HS.start NoF w
  clear hl h0 h1 h2 h4
  go_enter Tryd.func31, Tryd.ntmps31
  go_wp2_with (first
    | (refine box_blk rfl 70 _ rfl _ rfl R rfl ?_; intro g1 w1 hga hba hBa hsa; replace hS : HS NoF w w1 [.blk g1 70 R] := hS.pushBlk hBa hba hga; clear hga hba hBa hsa)
    | (have _ := mk0; refine alloc_blk rfl 72 rfl _ rfl (moveC 0 0 0 0 0 0) zeroMove ?_; intro g3 w3 hga hba hBa hsa; replace hS : HS NoF w w3 [.blk g3 72 (moveC 0 0 0 0 0 0), .blk g2 72 (moveC 0 0 0 0 0 0), .blk g1 70 R] := hS.pushBlk hBa hba hga; clear hga hba hBa hsa)
    | (refine alloc_blk rfl 72 rfl _ rfl (moveC 0 0 0 0 0 0) zeroMove ?_; intro g2 w2 hga hba hBa hsa; replace hS : HS NoF w w2 [.blk g2 72 (moveC 0 0 0 0 0 0), .blk g1 70 R] := hS.pushBlk hBa hba hga; clear hga hba hBa hsa; have c0 : w2.cell? ⟨g1, 0, none⟩ = _ := (hS.cell 1 rfl 0).trans H0.out; have c1 : w2.cell? ⟨g1, 1, none⟩ = _ := (hS.cell 1 rfl 1).trans H1.out; have c2 : w2.cell? ⟨g1, 2, none⟩ = _ := (hS.cell 1 rfl 2).trans H2.out; have c4 : w2.cell? ⟨g1, 4, none⟩ = _ := (hS.cell 1 rfl 4).trans H4.out; have mk0 : True := trivial)
    | (refine hs_storeW hS 0 rfl rfl 72 _ _ rfl rfl (moveC id kind state m 0 0) rfl (moveC_one _ _ _ _ _ _) 6 sizeMove rfl rfl _ rfl ?_; clear hS; intro w4 hS; replace hS : HS NoF w w4 [.blk g3 72 (moveC id kind state m 0 0), .blk g2 72 (moveC 0 0 0 0 0 0), .blk g1 70 R] := hS; clear c0 c1 c2 c4; have c107 : w4.cell? ⟨g1, 107, none⟩ = _ := (hS.cell 2 rfl 107).trans H107.out)
    | (go_at_call 64; refine (dhave_calls bs n k g gb gd _ (hS.oldCell CT.out (fun h => h)) hn HK.out HBL.out HB.out (hS.oldCell C0.out (fun h => h)) (hS.oldCell C1.out (fun h => h)) (fun j hj => hS.oldCell (CB.out j hj) (fun h => h))).mono ?_; rintro e w5 ⟨rfl, hB5⟩; rw [hC.out]; replace hS := hS.below hB5; clear hB5)
    | (refine hs_store1 hS 0 rfl rfl 3 _ _ rfl 4 rfl (.int .i64 (C : Nat)) rfl rfl sizeIntM (by simp [moveC]) _ rfl ?_; clear hS; intro w6 hS; replace hS : HS NoF w w6 [.blk g3 72 (moveC id kind state m C 0), .blk g2 72 (moveC 0 0 0 0 0 0), .blk g1 70 R] := hS)
    | (refine hs_store1 hS 0 rfl rfl 3 _ _ rfl 5 rfl (.int .i64 (n : Nat)) rfl rfl sizeIntM (by simp [moveC]) _ rfl ?_; clear hS; intro w7 hS; replace hS : HS NoF w w7 [.blk g3 72 (moveC id kind state m C n), .blk g2 72 (moveC 0 0 0 0 0 0), .blk g1 70 R] := hS)
    | (refine hs_loadW hS 0 rfl rfl 72 _ rfl rfl 6 sizeMove rfl _ undMove.choose_spec rfl _ rfl ?_)
    | (refine hs_storeW hS 1 rfl rfl 72 _ _ rfl rfl (moveC id kind state m C n) rfl (moveC_one _ _ _ _ _ _) 6 sizeMove rfl rfl _ rfl ?_; clear hS; intro w9 hS; replace hS : HS NoF w w9 [.blk g3 72 (moveC id kind state m C n), .blk g2 72 (moveC id kind state m C n), .blk g1 70 R] := hS)
    | fail)
  refine bodyPost_ret (results_strR rfl _ _ g2 _ (moveC id kind state m C n) _ rfl (hS.blk 1 rfl) Tryd.underlying72 sizeMove) rfl ⟨rfl, hS.bel⟩
set_option maxHeartbeats 1000000 in
set_option maxRecDepth 100000 in
theorem told_end (R : List Value) (id kind state : Int) (m : Nat)  (w : World) (hl : R.length = 108) (h0 : R[0]? = some (.int .i64 id)) (h1 : R[1]? = some (.int .i64 kind)) (h2 : R[2]? = some (.int .i64 state)) (h4 : R[4]? = some (.int .u32 (m : Int))) (hm : m ≤ 600) (h107 : R[107]? = some (.pointer none)) (hst : 3 ≤ state) :
    Calls Tryd.prog 31 #[.agg R.toArray] w fun e w' => e = .returned (.agg (moveC id kind state m 0 0).toArray) ∧ Below w.heap.size w w' := by
  have HL := hid hl
  have H0 := hid h0
  have H1 := hid h1
  have H2 := hid h2
  have H4 := hid h4
  have H107 := hid h107
  have hs1 : (state != 1 && state != 2) = true := by simp; omega
  clear h107
  by_cases hk : kind = 1
  · subst hk
    have hS := HS.start NoF w
    clear hl h0 h1 h2 h4
    go_enter Tryd.func31, Tryd.ntmps31
    go_wp2_with (first
      | (refine box_blk rfl 70 _ rfl _ rfl R rfl ?_; intro g1 w1 hga hba hBa hsa; replace hS : HS NoF w w1 [.blk g1 70 R] := hS.pushBlk hBa hba hga; clear hga hba hBa hsa)
      | (have _ := mk0; refine alloc_blk rfl 72 rfl _ rfl (moveC 0 0 0 0 0 0) zeroMove ?_; intro g3 w3 hga hba hBa hsa; replace hS : HS NoF w w3 [.blk g3 72 (moveC 0 0 0 0 0 0), .blk g2 72 (moveC 0 0 0 0 0 0), .blk g1 70 R] := hS.pushBlk hBa hba hga; clear hga hba hBa hsa)
      | (refine alloc_blk rfl 72 rfl _ rfl (moveC 0 0 0 0 0 0) zeroMove ?_; intro g2 w2 hga hba hBa hsa; replace hS : HS NoF w w2 [.blk g2 72 (moveC 0 0 0 0 0 0), .blk g1 70 R] := hS.pushBlk hBa hba hga; clear hga hba hBa hsa; have c0 : w2.cell? ⟨g1, 0, none⟩ = _ := (hS.cell 1 rfl 0).trans H0.out; have c1 : w2.cell? ⟨g1, 1, none⟩ = _ := (hS.cell 1 rfl 1).trans H1.out; have c2 : w2.cell? ⟨g1, 2, none⟩ = _ := (hS.cell 1 rfl 2).trans H2.out; have c4 : w2.cell? ⟨g1, 4, none⟩ = _ := (hS.cell 1 rfl 4).trans H4.out; have mk0 : True := trivial)
      | (refine hs_storeW hS 0 rfl rfl 72 _ _ rfl rfl (moveC id 1 state m 0 0) rfl (moveC_one _ _ _ _ _ _) 6 sizeMove rfl rfl _ rfl ?_; clear hS; intro w4 hS; replace hS : HS NoF w w4 [.blk g3 72 (moveC id 1 state m 0 0), .blk g2 72 (moveC 0 0 0 0 0 0), .blk g1 70 R] := hS; clear c0 c1 c2 c4; have c1 : w4.cell? ⟨g1, 1, none⟩ = _ := (hS.cell 2 rfl 1).trans H1.out; have c107 : w4.cell? ⟨g1, 107, none⟩ = _ := (hS.cell 2 rfl 107).trans H107.out)
      | (refine hs_loadW hS 2 rfl rfl 70 _ rfl rfl 108 sizeRow HL.out _ undRow.choose_spec rfl _ rfl ?_)
      | (go_at_call 65; refine (tended_calls R state _ H2.out).mono ?_; rintro e w5 ⟨rfl, hB5⟩; rw [hs1]; replace hS := hS.below hB5; clear hB5)
      | (refine hs_loadW hS 0 rfl rfl 72 _ rfl rfl 6 sizeMove rfl _ undMove.choose_spec rfl _ rfl ?_)
      | (refine hs_storeW hS 1 rfl rfl 72 _ _ rfl rfl (moveC id 1 state m 0 0) rfl (moveC_one _ _ _ _ _ _) 6 sizeMove rfl rfl _ rfl ?_; clear hS; intro w9 hS; replace hS : HS NoF w w9 [.blk g3 72 (moveC id 1 state m 0 0), .blk g2 72 (moveC id 1 state m 0 0), .blk g1 70 R] := hS)
      | fail)
    refine bodyPost_ret (results_strR rfl _ _ g2 _ (moveC id 1 state m 0 0) _ rfl (hS.blk 1 rfl) Tryd.underlying72 sizeMove) rfl ⟨rfl, hS.bel⟩
  · have hk2 : (kind == 1) = false := by simp [hk]
    have hS := HS.start NoF w
    clear hl h0 h1 h2 h4
    go_enter Tryd.func31, Tryd.ntmps31
    go_wp2_with (first
      | (refine box_blk rfl 70 _ rfl _ rfl R rfl ?_; intro g1 w1 hga hba hBa hsa; replace hS : HS NoF w w1 [.blk g1 70 R] := hS.pushBlk hBa hba hga; clear hga hba hBa hsa)
      | (have _ := mk0; refine alloc_blk rfl 72 rfl _ rfl (moveC 0 0 0 0 0 0) zeroMove ?_; intro g3 w3 hga hba hBa hsa; replace hS : HS NoF w w3 [.blk g3 72 (moveC 0 0 0 0 0 0), .blk g2 72 (moveC 0 0 0 0 0 0), .blk g1 70 R] := hS.pushBlk hBa hba hga; clear hga hba hBa hsa)
      | (refine alloc_blk rfl 72 rfl _ rfl (moveC 0 0 0 0 0 0) zeroMove ?_; intro g2 w2 hga hba hBa hsa; replace hS : HS NoF w w2 [.blk g2 72 (moveC 0 0 0 0 0 0), .blk g1 70 R] := hS.pushBlk hBa hba hga; clear hga hba hBa hsa; have c0 : w2.cell? ⟨g1, 0, none⟩ = _ := (hS.cell 1 rfl 0).trans H0.out; have c1 : w2.cell? ⟨g1, 1, none⟩ = _ := (hS.cell 1 rfl 1).trans H1.out; have c2 : w2.cell? ⟨g1, 2, none⟩ = _ := (hS.cell 1 rfl 2).trans H2.out; have c4 : w2.cell? ⟨g1, 4, none⟩ = _ := (hS.cell 1 rfl 4).trans H4.out; have mk0 : True := trivial)
      | (refine hs_storeW hS 0 rfl rfl 72 _ _ rfl rfl (moveC id kind state m 0 0) rfl (moveC_one _ _ _ _ _ _) 6 sizeMove rfl rfl _ rfl ?_; clear hS; intro w4 hS; replace hS : HS NoF w w4 [.blk g3 72 (moveC id kind state m 0 0), .blk g2 72 (moveC 0 0 0 0 0 0), .blk g1 70 R] := hS; clear c0 c1 c2 c4; have c1 : w4.cell? ⟨g1, 1, none⟩ = _ := (hS.cell 2 rfl 1).trans H1.out; have c107 : w4.cell? ⟨g1, 107, none⟩ = _ := (hS.cell 2 rfl 107).trans H107.out)
      | (refine hs_loadW hS 2 rfl rfl 70 _ rfl rfl 108 sizeRow HL.out _ undRow.choose_spec rfl _ rfl ?_)
      | (go_at_call 65; refine (tended_calls R state _ H2.out).mono ?_; rintro e w5 ⟨rfl, hB5⟩; rw [hs1]; replace hS := hS.below hB5; clear hB5)
      | (refine hs_loadW hS 0 rfl rfl 72 _ rfl rfl 6 sizeMove rfl _ undMove.choose_spec rfl _ rfl ?_)
      | (refine hs_storeW hS 1 rfl rfl 72 _ _ rfl rfl (moveC id kind state m 0 0) rfl (moveC_one _ _ _ _ _ _) 6 sizeMove rfl rfl _ rfl ?_; clear hS; intro w9 hS; replace hS : HS NoF w w9 [.blk g3 72 (moveC id kind state m 0 0), .blk g2 72 (moveC id kind state m 0 0), .blk g1 70 R] := hS)
      | fail)
    refine bodyPost_ret (results_strR rfl _ _ g2 _ (moveC id kind state m 0 0) _ rfl (hS.blk 1 rfl) Tryd.underlying72 sizeMove) rfl ⟨rfl, hS.bel⟩
set_option maxHeartbeats 1000000 in
set_option maxRecDepth 100000 in
theorem told_up (R : List Value) (id : Int) (m : Nat) (at_ : Int) (A : Option Addr) (n c : Nat) (w : World) (hl : R.length = 108) (h0 : R[0]? = some (.int .i64 id)) (h1 : R[1]? = some (.int .i64 1)) (h2 : R[2]? = some (.int .i64 2)) (h4 : R[4]? = some (.int .u32 (m : Int))) (hm : m ≤ 600) (h102 : R[102]? = some (.slice A n c)) (h104 : R[104]? = some (.int .i64 at_)) (h107 : R[107]? = some (.pointer none)) :
    Calls Tryd.prog 31 #[.agg R.toArray] w fun e w' => e = .returned (.agg (moveC id 1 2 m at_ n).toArray) ∧ Below w.heap.size w w' := by
  have HL := hid hl
  have H0 := hid h0
  have H1 := hid h1
  have H2 := hid h2
  have H4 := hid h4
  have H102 := hid h102
  have H104 := hid h104
  have H107 := hid h107
  clear h102 h104 h107
  have hS := HS.start NoF w
  clear hl h0 h1 h2 h4
  go_enter Tryd.func31, Tryd.ntmps31
  go_wp2_with (first
    | (refine box_blk rfl 70 _ rfl _ rfl R rfl ?_; intro g1 w1 hga hba hBa hsa; replace hS : HS NoF w w1 [.blk g1 70 R] := hS.pushBlk hBa hba hga; clear hga hba hBa hsa)
    | (have _ := mk0; refine alloc_blk rfl 72 rfl _ rfl (moveC 0 0 0 0 0 0) zeroMove ?_; intro g3 w3 hga hba hBa hsa; replace hS : HS NoF w w3 [.blk g3 72 (moveC 0 0 0 0 0 0), .blk g2 72 (moveC 0 0 0 0 0 0), .blk g1 70 R] := hS.pushBlk hBa hba hga; clear hga hba hBa hsa)
    | (refine alloc_blk rfl 72 rfl _ rfl (moveC 0 0 0 0 0 0) zeroMove ?_; intro g2 w2 hga hba hBa hsa; replace hS : HS NoF w w2 [.blk g2 72 (moveC 0 0 0 0 0 0), .blk g1 70 R] := hS.pushBlk hBa hba hga; clear hga hba hBa hsa; have c0 : w2.cell? ⟨g1, 0, none⟩ = _ := (hS.cell 1 rfl 0).trans H0.out; have c1 : w2.cell? ⟨g1, 1, none⟩ = _ := (hS.cell 1 rfl 1).trans H1.out; have c2 : w2.cell? ⟨g1, 2, none⟩ = _ := (hS.cell 1 rfl 2).trans H2.out; have c4 : w2.cell? ⟨g1, 4, none⟩ = _ := (hS.cell 1 rfl 4).trans H4.out; have mk0 : True := trivial)
    | (refine hs_storeW hS 0 rfl rfl 72 _ _ rfl rfl (moveC id 1 2 m 0 0) rfl (moveC_one _ _ _ _ _ _) 6 sizeMove rfl rfl _ rfl ?_; clear hS; intro w4 hS; replace hS : HS NoF w w4 [.blk g3 72 (moveC id 1 2 m 0 0), .blk g2 72 (moveC 0 0 0 0 0 0), .blk g1 70 R] := hS; clear c0 c1 c2 c4; have c1 : w4.cell? ⟨g1, 1, none⟩ = _ := (hS.cell 2 rfl 1).trans H1.out; have c107 : w4.cell? ⟨g1, 107, none⟩ = _ := (hS.cell 2 rfl 107).trans H107.out)
    | (refine hs_loadW hS 2 rfl rfl 70 _ rfl rfl 108 sizeRow HL.out _ undRow.choose_spec rfl _ rfl ?_)
    | (go_at_call 65; refine (tended_calls R 2 _ H2.out).mono ?_; rintro e w5 ⟨rfl, hB5⟩; rw [show ((2 : Int) != 1 && (2 : Int) != 2) = false from rfl]; replace hS := hS.below hB5; clear hB5)
    | fail)
  try go_wp2_with fail
  refine wp_region_S (F := NoF) (w0 := w) (L0 := [.blk g2 72 (moveC 0 0 0 0 0 0), .blk g1 70 R]) [] [7, 9]
    (fun iK u E => match iK with
      | _ => False)
    ([.blk g3 72 (moveC id 1 2 m 0 0)]) (by kernel_rfl) (by kernel_rfl) hS ?_
  show wpS _ _ _ _ _ _ _ _ _ _ [0, 1, 2, 3, 4, 5, 6, 7, 8, 9] _
  apply wpS_read (i := 0) rfl rfl ⟨_, (HS.drop2 (E := [.blk g3 72 (moveC id 1 2 m 0 0)]) (L := [.blk g2 72 (moveC 0 0 0 0 0 0), .blk g1 70 R]) hS)⟩ rfl -- Op.fieldAddr 70 t1 5
  · intro w' hT'
    simp only [List.getElem_toArray, List.getElem_cons_zero, List.getElem_cons_succ]
    go_wp2_with fail
    first | exact ⟨rfl, rfl, rfl⟩ | rfl
  apply wpS_read (i := 1) rfl rfl ⟨_, (HS.drop2 (E := [.blk g3 72 (moveC id 1 2 m 0 0)]) (L := [.blk g2 72 (moveC 0 0 0 0 0 0), .blk g1 70 R]) hS)⟩ rfl -- Op.fieldAddr 67 t36 1
  · intro w' hT'
    simp only [List.getElem_toArray, List.getElem_cons_zero, List.getElem_cons_succ]
    go_wp2_with fail
    first | exact ⟨rfl, rfl, rfl⟩ | rfl
  apply wpS_read (i := 2) rfl rfl ⟨_, (HS.drop2 (E := [.blk g3 72 (moveC id 1 2 m 0 0)]) (L := [.blk g2 72 (moveC 0 0 0 0 0 0), .blk g1 70 R]) hS)⟩ rfl -- Op.load 3 t37
  · intro w' hT'
    simp only [List.getElem_toArray, List.getElem_cons_zero, List.getElem_cons_succ]
    have c102 := (hT'.cell 1 rfl 102).trans H102.out
    have c104 := (hT'.cell 1 rfl 104).trans H104.out
    go_wp2_with fail
    first | exact ⟨rfl, rfl, rfl⟩ | rfl
  apply wpS_read (i := 3) rfl rfl ⟨_, (HS.drop2 (E := [.blk g3 72 (moveC id 1 2 m 0 0)]) (L := [.blk g2 72 (moveC 0 0 0 0 0 0), .blk g1 70 R]) hS)⟩ rfl -- Op.fieldAddr 70 t1 4
  · intro w' hT'
    simp only [List.getElem_toArray, List.getElem_cons_zero, List.getElem_cons_succ]
    go_wp2_with fail
    first | exact ⟨rfl, rfl, rfl⟩ | rfl
  apply wpS_read (i := 4) rfl rfl ⟨_, (HS.drop2 (E := [.blk g3 72 (moveC id 1 2 m 0 0)]) (L := [.blk g2 72 (moveC 0 0 0 0 0 0), .blk g1 70 R]) hS)⟩ rfl -- Op.load 24 t39
  · intro w' hT'
    simp only [List.getElem_toArray, List.getElem_cons_zero, List.getElem_cons_succ]
    have c102 := (hT'.cell 1 rfl 102).trans H102.out
    have c104 := (hT'.cell 1 rfl 104).trans H104.out
    go_wp2_with fail
    first | exact ⟨rfl, rfl, rfl⟩ | rfl
  apply wpS_read (i := 5) rfl rfl ⟨_, (HS.drop2 (E := [.blk g3 72 (moveC id 1 2 m 0 0)]) (L := [.blk g2 72 (moveC 0 0 0 0 0 0), .blk g1 70 R]) hS)⟩ rfl -- Op.call { builtin len, args := #[t40], argTypes := #[24] }
  · intro w' hT'
    simp only [List.getElem_toArray, List.getElem_cons_zero, List.getElem_cons_succ]
    go_wp2_with fail
    first | exact ⟨rfl, rfl, rfl⟩ | rfl
  apply wpS_read (i := 6) rfl rfl ⟨_, (HS.drop2 (E := [.blk g3 72 (moveC id 1 2 m 0 0)]) (L := [.blk g2 72 (moveC 0 0 0 0 0 0), .blk g1 70 R]) hS)⟩ rfl -- Op.fieldAddr 72 t3 4
  · intro w' hT'
    simp only [List.getElem_toArray, List.getElem_cons_zero, List.getElem_cons_succ]
    go_wp2_with fail
    first | exact ⟨rfl, rfl, rfl⟩ | rfl
  refine wpS_hard (i := 7) rfl rfl ?_ -- Op.store 3 t42 t38
  intro w7 hT
  replace hT : HS NoF w w7 [.blk g3 72 (moveC id 1 2 m 0 0), .blk g2 72 (moveC 0 0 0 0 0 0), .blk g1 70 R] := hT
  simp only [List.getElem_toArray, List.getElem_cons_zero, List.getElem_cons_succ]
  go_wp2_with (first
    | (refine hs_store1 hT 0 rfl rfl 3 _ _ rfl 4 rfl (.int .i64 at_) rfl rfl sizeIntM (by simp [moveC]) _ rfl ?_; clear hT; intro w6 hT)
    | fail)
  refine HardP.mk' ([.blk g3 72 (moveC id 1 2 m at_ 0)]) rfl ?_ ?_
  · exact hT
  clear hT
  apply wpS_read (i := 8) rfl rfl ⟨_, (HS.drop2 (E := [.blk g3 72 (moveC id 1 2 m 0 0)]) (L := [.blk g2 72 (moveC 0 0 0 0 0 0), .blk g1 70 R]) hS)⟩ rfl -- Op.fieldAddr 72 t3 5
  · intro w' hT'
    simp only [List.getElem_toArray, List.getElem_cons_zero, List.getElem_cons_succ]
    go_wp2_with fail
    first | exact ⟨rfl, rfl, rfl⟩ | rfl
  refine wpS_hard (i := 9) rfl rfl ?_ -- Op.store 3 t43 t41
  intro w9 hT
  replace hT : HS NoF w w9 [.blk g3 72 (moveC id 1 2 m at_ 0), .blk g2 72 (moveC 0 0 0 0 0 0), .blk g1 70 R] := hT
  simp only [List.getElem_toArray, List.getElem_cons_zero, List.getElem_cons_succ]
  go_wp2_with (first
    | (refine hs_store1 hT 0 rfl rfl 3 _ _ rfl 5 rfl (.int .i64 (n : Nat)) rfl rfl sizeIntM (by simp [moveC]) _ rfl ?_; clear hT; intro w7 hT)
    | fail)
  refine HardP.mk' ([.blk g3 72 (moveC id 1 2 m at_ n)]) rfl ?_ ?_
  · exact hT
  clear hT
  refine wpS_end ?_
  intro wz hT
  try dsimp only
  clear hS
  have hS : HS NoF w wz [.blk g3 72 (moveC id 1 2 m at_ n), .blk g2 72 (moveC 0 0 0 0 0 0), .blk g1 70 R] := hT
  clear hT
  go_wp2_with (first
      | (refine hs_loadW hS 0 rfl rfl 72 _ rfl rfl 6 sizeMove rfl _ undMove.choose_spec rfl _ rfl ?_)
      | (refine hs_storeW hS 1 rfl rfl 72 _ _ rfl rfl (moveC id 1 2 m at_ n) rfl (moveC_one _ _ _ _ _ _) 6 sizeMove rfl rfl _ rfl ?_; clear hS; intro w9 hS; replace hS : HS NoF w w9 [.blk g3 72 (moveC id 1 2 m at_ n), .blk g2 72 (moveC id 1 2 m at_ n), .blk g1 70 R] := hS)
      | fail)
  refine bodyPost_ret (results_strR rfl _ _ g2 _ (moveC id 1 2 m at_ n) _ rfl (hS.blk 1 rfl) Tryd.underlying72 sizeMove) rfl ⟨rfl, hS.bel⟩
end Go.Proofs.YtckcdngnkpfcfaaDoor
/- table: End. -/
namespace Go.Proofs.YtckcdngnkpfcfaaDoor
open Go.RowKit Go.Cour
def dscZ (di m q : Int) : List Value := descC di m q (List.replicate 32 0) (List.replicate 32 0) (List.replicate 32 0)
theorem dscZ_length (di m q : Int) : (dscZ di m q).length = 99 := descC_length (by simp) (by simp) (by simp)
/-- A row that has ended. -/
def endC (id kind state : Int) (D : List Value) (blob : Value) : List Value := rowC id kind state D blob [.int .i64 0, .int .i64 0, .int .i64 0, .int .i64 0] (.pointer none)
def rowZ : List Value := endC 0 0 0 (dscZ 0 0 0) (.slice none 0 0)
theorem endC_length (id kind state : Int) (D : List Value) (blob : Value) (h : D.length = 99) : (endC id kind state D blob).length = 108 := by simp [endC, rowC, h]
theorem rowZ_length : rowZ.length = 108 := endC_length _ _ _ _ _ (dscZ_length _ _ _)
theorem rowC_one (id kind state : Int) (D : List Value) (blob : Value) (u0 u1 u2 u3 : Int) (down : Value) (h : ∀ v ∈ D, v.oneCell' = true) (hb : blob.oneCell' = true) (hd : down.oneCell' = true) : ∀ v ∈ rowC id kind state D blob [.int .i64 u0, .int .i64 u1, .int .i64 u2, .int .i64 u3] down, v.oneCell' = true := fun v hv => by
  unfold rowC at hv
  simp only [List.mem_append, List.mem_cons, List.not_mem_nil, or_false] at hv
  rcases hv with ((((rfl | rfl | rfl) | hv) | rfl) | (rfl | rfl | rfl | rfl)) | rfl
  · rfl
  · rfl
  · rfl
  · exact h v hv
  · exact hb
  · rfl
  · rfl
  · rfl
  · rfl
  · exact hd
theorem endC_one (id kind state : Int) (D : List Value) (blob : Value) (h : ∀ v ∈ D, v.oneCell' = true) (hb : blob.oneCell' = true) : ∀ v ∈ endC id kind state D blob, v.oneCell' = true := rowC_one _ _ _ _ _ _ _ _ _ _ h hb rfl
theorem endC_blob (id kind state : Int) (D : List Value) (b v : Value) (h : D.length = 99) : (endC id kind state D b).set 102 v = endC id kind state D v := by
  simp [endC, rowC, List.set_append, h]
theorem sizeBytesM : (Tryd.prog.info? 24).map (·.size) = some 1 := by kernel_rfl
theorem zeroRow : ((Tryd.prog.info? 70).bind (·.zero)).map (·.cells) = some rowZ.toArray := by kernel_rfl
theorem builtDescZ (di m q : Int) : Tryd.prog.built 32 [(0, .int .u32 di), (1, .int .u32 m), (2, .int .u32 q)] = some (dscZ di m q).toArray := by kernel_rfl
theorem builtRowZ (id kind state di m q : Int) : Tryd.prog.built 70 [(0, .int .i64 id), (1, .int .i64 kind), (2, .int .i64 state), (3, .agg (dscZ di m q).toArray)] = some (endC id kind state (dscZ di m q) (.slice none 0 0)).toArray := by kernel_rfl
set_option maxHeartbeats 6000000 in
set_option maxRecDepth 100000 in
theorem tend_calls (R : List Value) (id kind state : Int) (di : Int) (m q : Nat) (dn : Option Addr) (w : World) (hl : R.length = 108) (h0 : R[0]? = some (.int .i64 id)) (h1 : R[1]? = some (.int .i64 kind)) (h3 : R[3]? = some (.int .u32 di)) (h4 : R[4]? = some (.int .u32 (m : Int))) (h5 : R[5]? = some (.int .u32 (q : Int))) (h107 : R[107]? = some (.pointer dn)) (hn : dn = none ∨ state ≠ 3) :
    Calls Tryd.prog 32 #[.agg R.toArray, .int .i64 state] w fun e w' => e = .returned (.agg (endC id kind state (dscZ di m q) (.slice none 0 0)).toArray) ∧ Below w.heap.size w w' := by
  have HL := hid hl
  have H0 := hid h0
  have H1 := hid h1
  have H3 := hid h3
  have H4 := hid h4
  have H5 := hid h5
  have H107 := hid h107
  have hS := HS.start NoF w
  clear hl h0 h1 h3 h4 h5 h107
  have HZL : Hd (rowZ.length = 108) := hid rowZ_length
  have HE1 := hid (endC_one id kind state (dscZ di m q) (.slice none 0 0) (descC_one _ _ _ _ _ _) rfl)
  have HEL := hid (endC_length id kind state (dscZ di m q) (.slice none 0 0) (dscZ_length di m q))
  obtain ⟨E0, hE0⟩ : ∃ E0, E0 = endC id kind state (dscZ di m q) (.slice none 0 0) := ⟨_, rfl⟩
  have HB2 : Hd (Tryd.prog.built 70 [(0, .int .i64 id), (1, .int .i64 kind), (2, .int .i64 state), (3, .agg (dscZ di m q).toArray)] = some E0.toArray) := hid (by rw [hE0]; exact builtRowZ _ _ _ _ _ _)
  have HB1 := hid (builtDescZ di m q)
  have HZ := hid zeroRow
  rw [← hE0] at HE1 HEL ⊢
  have HE0 := hid hE0
  clear hE0
  obtain ⟨DZ, hDZ⟩ : ∃ DZ, Hd (dscZ di m q = DZ) := ⟨_, hid rfl⟩
  rw [hDZ.out] at HB1 HB2
  generalize rowZ = RZ at *
  go_enter Tryd.func32, Tryd.ntmps32
  rcases hn with rfl | hn
  · go_wp2_with (first
      | (refine box_blk rfl 70 _ rfl _ rfl R rfl ?_; intro g1 w1 hga hba hBa hsa; replace hS : HS NoF w w1 [.blk g1 70 R] := hS.pushBlk hBa hba hga; clear hga hba hBa hsa)
      | (have _ := mk0; refine alloc_blk rfl 70 rfl _ rfl RZ HZ.out ?_; intro g3 w3 hga hba hBa hsa; replace hS : HS NoF w w3 [.blk g3 70 RZ, .blk g2 70 RZ, .blk g1 70 R] := hS.pushBlk hBa hba hga; clear hga hba hBa hsa)
      | (refine alloc_blk rfl 70 rfl _ rfl RZ HZ.out ?_; intro g2 w2 hga hba hBa hsa; replace hS : HS NoF w w2 [.blk g2 70 RZ, .blk g1 70 R] := hS.pushBlk hBa hba hga; clear hga hba hBa hsa; have c0 : w2.cell? ⟨g1, 0, none⟩ = _ := (hS.cell 1 rfl 0).trans H0.out; have c1 : w2.cell? ⟨g1, 1, none⟩ = _ := (hS.cell 1 rfl 1).trans H1.out; have c3 : w2.cell? ⟨g1, 3, none⟩ = _ := (hS.cell 1 rfl 3).trans H3.out; have c4 : w2.cell? ⟨g1, 4, none⟩ = _ := (hS.cell 1 rfl 4).trans H4.out; have c5 : w2.cell? ⟨g1, 5, none⟩ = _ := (hS.cell 1 rfl 5).trans H5.out; have mk0 : True := trivial)
      | (refine build_to rfl 32 _ rfl DZ.toArray (by rw [Array.toList_map]; exact HB1.out) ?_)
      | (refine build_to rfl 70 _ rfl E0.toArray (by rw [Array.toList_map]; exact HB2.out) ?_)
      | (refine hs_storeW hS 0 rfl rfl 70 _ _ rfl rfl E0 rfl HE1.out 108 sizeRow HEL.out HZL.out _ rfl ?_; clear hS; intro w4 hS; replace hS : HS NoF w w4 [.blk g3 70 E0, .blk g2 70 RZ, .blk g1 70 R] := hS; clear c0 c1 c3 c4 c5; have c107 : w4.cell? ⟨g1, 107, none⟩ = _ := (hS.cell 2 rfl 107).trans H107.out)
      | (refine hs_loadW hS 0 rfl rfl 70 _ rfl rfl 108 sizeRow HEL.out _ undRow.choose_spec rfl _ rfl ?_)
      | (refine hs_storeW hS 1 rfl rfl 70 _ _ rfl rfl E0 rfl HE1.out 108 sizeRow HEL.out HZL.out _ rfl ?_; clear hS; intro w9 hS)
      | fail)
    refine bodyPost_ret (results_strR rfl _ _ g2 _ E0 _ rfl (hS.blk 1 rfl) Tryd.underlying70 (by rw [HEL.out]; exact sizeRow)) rfl ⟨rfl, hS.bel⟩
  · have hst : (state == 3) = false := by simp [hn]
    cases dn with
    | none =>
      go_wp2_with (first
        | (refine box_blk rfl 70 _ rfl _ rfl R rfl ?_; intro g1 w1 hga hba hBa hsa; replace hS : HS NoF w w1 [.blk g1 70 R] := hS.pushBlk hBa hba hga; clear hga hba hBa hsa)
        | (have _ := mk0; refine alloc_blk rfl 70 rfl _ rfl RZ HZ.out ?_; intro g3 w3 hga hba hBa hsa; replace hS : HS NoF w w3 [.blk g3 70 RZ, .blk g2 70 RZ, .blk g1 70 R] := hS.pushBlk hBa hba hga; clear hga hba hBa hsa)
        | (refine alloc_blk rfl 70 rfl _ rfl RZ HZ.out ?_; intro g2 w2 hga hba hBa hsa; replace hS : HS NoF w w2 [.blk g2 70 RZ, .blk g1 70 R] := hS.pushBlk hBa hba hga; clear hga hba hBa hsa; have c0 : w2.cell? ⟨g1, 0, none⟩ = _ := (hS.cell 1 rfl 0).trans H0.out; have c1 : w2.cell? ⟨g1, 1, none⟩ = _ := (hS.cell 1 rfl 1).trans H1.out; have c3 : w2.cell? ⟨g1, 3, none⟩ = _ := (hS.cell 1 rfl 3).trans H3.out; have c4 : w2.cell? ⟨g1, 4, none⟩ = _ := (hS.cell 1 rfl 4).trans H4.out; have c5 : w2.cell? ⟨g1, 5, none⟩ = _ := (hS.cell 1 rfl 5).trans H5.out; have mk0 : True := trivial)
        | (refine build_to rfl 32 _ rfl DZ.toArray (by rw [Array.toList_map]; exact HB1.out) ?_)
        | (refine build_to rfl 70 _ rfl E0.toArray (by rw [Array.toList_map]; exact HB2.out) ?_)
        | (refine hs_storeW hS 0 rfl rfl 70 _ _ rfl rfl E0 rfl HE1.out 108 sizeRow HEL.out HZL.out _ rfl ?_; clear hS; intro w4 hS; replace hS : HS NoF w w4 [.blk g3 70 E0, .blk g2 70 RZ, .blk g1 70 R] := hS; clear c0 c1 c3 c4 c5; have c107 : w4.cell? ⟨g1, 107, none⟩ = _ := (hS.cell 2 rfl 107).trans H107.out)
        | (refine hs_loadW hS 0 rfl rfl 70 _ rfl rfl 108 sizeRow HEL.out _ undRow.choose_spec rfl _ rfl ?_)
        | (refine hs_storeW hS 1 rfl rfl 70 _ _ rfl rfl E0 rfl HE1.out 108 sizeRow HEL.out HZL.out _ rfl ?_; clear hS; intro w9 hS)
        | fail)
      refine bodyPost_ret (results_strR rfl _ _ g2 _ E0 _ rfl (hS.blk 1 rfl) Tryd.underlying70 (by rw [HEL.out]; exact sizeRow)) rfl ⟨rfl, hS.bel⟩
    | some a =>
      go_wp2_with (first
        | (refine box_blk rfl 70 _ rfl _ rfl R rfl ?_; intro g1 w1 hga hba hBa hsa; replace hS : HS NoF w w1 [.blk g1 70 R] := hS.pushBlk hBa hba hga; clear hga hba hBa hsa)
        | (have _ := mk0; refine alloc_blk rfl 70 rfl _ rfl RZ HZ.out ?_; intro g3 w3 hga hba hBa hsa; replace hS : HS NoF w w3 [.blk g3 70 RZ, .blk g2 70 RZ, .blk g1 70 R] := hS.pushBlk hBa hba hga; clear hga hba hBa hsa)
        | (refine alloc_blk rfl 70 rfl _ rfl RZ HZ.out ?_; intro g2 w2 hga hba hBa hsa; replace hS : HS NoF w w2 [.blk g2 70 RZ, .blk g1 70 R] := hS.pushBlk hBa hba hga; clear hga hba hBa hsa; have c0 : w2.cell? ⟨g1, 0, none⟩ = _ := (hS.cell 1 rfl 0).trans H0.out; have c1 : w2.cell? ⟨g1, 1, none⟩ = _ := (hS.cell 1 rfl 1).trans H1.out; have c3 : w2.cell? ⟨g1, 3, none⟩ = _ := (hS.cell 1 rfl 3).trans H3.out; have c4 : w2.cell? ⟨g1, 4, none⟩ = _ := (hS.cell 1 rfl 4).trans H4.out; have c5 : w2.cell? ⟨g1, 5, none⟩ = _ := (hS.cell 1 rfl 5).trans H5.out; have mk0 : True := trivial)
        | (refine build_to rfl 32 _ rfl DZ.toArray (by rw [Array.toList_map]; exact HB1.out) ?_)
        | (refine build_to rfl 70 _ rfl E0.toArray (by rw [Array.toList_map]; exact HB2.out) ?_)
        | (refine hs_storeW hS 0 rfl rfl 70 _ _ rfl rfl E0 rfl HE1.out 108 sizeRow HEL.out HZL.out _ rfl ?_; clear hS; intro w4 hS; replace hS : HS NoF w w4 [.blk g3 70 E0, .blk g2 70 RZ, .blk g1 70 R] := hS; clear c0 c1 c3 c4 c5; have c107 : w4.cell? ⟨g1, 107, none⟩ = _ := (hS.cell 2 rfl 107).trans H107.out)
        | (refine hs_loadW hS 0 rfl rfl 70 _ rfl rfl 108 sizeRow HEL.out _ undRow.choose_spec rfl _ rfl ?_)
        | (refine hs_storeW hS 1 rfl rfl 70 _ _ rfl rfl E0 rfl HE1.out 108 sizeRow HEL.out HZL.out _ rfl ?_; clear hS; intro w9 hS)
        | fail)
      refine bodyPost_ret (results_strR rfl _ _ g2 _ E0 _ rfl (hS.blk 1 rfl) Tryd.underlying70 (by rw [HEL.out]; exact sizeRow)) rfl ⟨rfl, hS.bel⟩
set_option maxHeartbeats 6000000 in
set_option maxRecDepth 100000 in
theorem tend_done (R : List Value) (id kind : Int) (di : Int) (m q : Nat) (xs : List Int) (gd n c : Nat) (A : Option Addr) (w : World) (hl : R.length = 108) (h0 : R[0]? = some (.int .i64 id)) (h1 : R[1]? = some (.int .i64 kind)) (h3 : R[3]? = some (.int .u32 di)) (h4 : R[4]? = some (.int .u32 (m : Int))) (h5 : R[5]? = some (.int .u32 (q : Int))) (h107 : R[107]? = some (.pointer (some ⟨gd, 0, none⟩))) (ct : w.cell? ⟨gd, 102, none⟩ = some (.slice A n c)) (hn : n = xs.length) (hA : A = none → c = 0) (hr : Rd w A .u8 xs) (hx : xs.length ≤ 1000000) :
    Calls Tryd.prog 32 #[.agg R.toArray, .int .i64 3] w fun e w' => ∃ v, e = .returned (.agg (endC id kind 3 (dscZ di m q) v).toArray) ∧ OwnS w' 5 v (ints .u8 xs) ∧ Below w.heap.size w w' := by
  have HL := hid hl
  have H0 := hid h0
  have H1 := hid h1
  have H3 := hid h3
  have H4 := hid h4
  have H5 := hid h5
  have H107 := hid h107
  have CT := hid ct
  have HN := hid hn
  have HA := hid hA
  have HR := hid hr
  have HX := hid hx
  clear ct hn hA hr hx
  have hS := HS.start NoF w
  clear hl h0 h1 h3 h4 h5 h107
  have HZL : Hd (rowZ.length = 108) := hid rowZ_length
  have HE1 := hid (endC_one id kind 3 (dscZ di m q) (.slice none 0 0) (descC_one _ _ _ _ _ _) rfl)
  have HEL := hid (endC_length id kind 3 (dscZ di m q) (.slice none 0 0) (dscZ_length di m q))
  have HEB : ∀ v, (endC id kind 3 (dscZ di m q) (.slice none 0 0)).set 102 v = endC id kind 3 (dscZ di m q) v := fun v => endC_blob _ _ _ _ _ _ (dscZ_length di m q)
  have HEV := fun v (hv : v.oneCell' = true) => endC_one id kind 3 (dscZ di m q) v (descC_one _ _ _ _ _ _) hv
  have HEVL := fun v => endC_length id kind 3 (dscZ di m q) v (dscZ_length di m q)
  obtain ⟨E0, hE0⟩ : ∃ E0, E0 = endC id kind 3 (dscZ di m q) (.slice none 0 0) := ⟨_, rfl⟩
  have HB2 : Hd (Tryd.prog.built 70 [(0, .int .i64 id), (1, .int .i64 kind), (2, .int .i64 3), (3, .agg (dscZ di m q).toArray)] = some E0.toArray) := hid (by rw [hE0]; exact builtRowZ _ _ _ _ _ _)
  have HB1 := hid (builtDescZ di m q)
  have HZ := hid zeroRow
  rw [← hE0] at HE1 HEL; simp only [← hE0] at HEB
  have HE0 := hid hE0
  clear hE0
  obtain ⟨DZ, hDZ⟩ : ∃ DZ, Hd (dscZ di m q = DZ) := ⟨_, hid rfl⟩
  rw [hDZ.out] at HB1 HB2
  rw [hDZ.out] at HEB
  replace HEB := hid HEB
  replace HEV := hid HEV
  replace HEVL := hid HEVL
  rw [hDZ.out] at HEV HEVL ⊢
  generalize rowZ = RZ at *
  go_enter Tryd.func32, Tryd.ntmps32
  go_wp2_with (first
    | (refine box_blk rfl 70 _ rfl _ rfl R rfl ?_; intro g1 w1 hga hba hBa hsa; replace hS : HS NoF w w1 [.blk g1 70 R] := hS.pushBlk hBa hba hga; clear hga hba hBa hsa)
    | (have _ := mk0; refine alloc_blk rfl 70 rfl _ rfl RZ HZ.out ?_; intro g3 w3 hga hba hBa hsa; replace hS : HS NoF w w3 [.blk g3 70 RZ, .blk g2 70 RZ, .blk g1 70 R] := hS.pushBlk hBa hba hga; clear hga hba hBa hsa)
    | (refine alloc_blk rfl 70 rfl _ rfl RZ HZ.out ?_; intro g2 w2 hga hba hBa hsa; replace hS : HS NoF w w2 [.blk g2 70 RZ, .blk g1 70 R] := hS.pushBlk hBa hba hga; clear hga hba hBa hsa; have c0 : w2.cell? ⟨g1, 0, none⟩ = _ := (hS.cell 1 rfl 0).trans H0.out; have c1 : w2.cell? ⟨g1, 1, none⟩ = _ := (hS.cell 1 rfl 1).trans H1.out; have c3 : w2.cell? ⟨g1, 3, none⟩ = _ := (hS.cell 1 rfl 3).trans H3.out; have c4 : w2.cell? ⟨g1, 4, none⟩ = _ := (hS.cell 1 rfl 4).trans H4.out; have c5 : w2.cell? ⟨g1, 5, none⟩ = _ := (hS.cell 1 rfl 5).trans H5.out; have mk0 : True := trivial)
    | (refine build_to rfl 32 _ rfl DZ.toArray (by rw [Array.toList_map]; exact HB1.out) ?_)
    | (refine build_to rfl 70 _ rfl E0.toArray (by rw [Array.toList_map]; exact HB2.out) ?_)
    | (refine hs_storeW hS 0 rfl rfl 70 _ _ rfl rfl E0 rfl HE1.out 108 sizeRow HEL.out HZL.out _ rfl ?_; clear hS; intro w4 hS; replace hS : HS NoF w w4 [.blk g3 70 E0, .blk g2 70 RZ, .blk g1 70 R] := hS; clear c0 c1 c3 c4 c5; have c107 : w4.cell? ⟨g1, 107, none⟩ = _ := (hS.cell 2 rfl 107).trans H107.out)
    | (go_at_call 66; refine (dwhole_calls xs gd n c A _ (hS.oldCell CT.out (fun h => h)) HN.out HA.out (hS.oldRd HR.out (fun _ _ _ h => h)) HX.out).mono ?_; rintro e w5 ⟨v, rfl, ho, hB5⟩; obtain ⟨Av, cv, rfl, hcv, _, _⟩ := ho.slice; replace hS := hS.pushOwn hB5 ho; clear ho hB5 hcv)
    | (refine hs_store1 hS 1 rfl rfl 24 _ _ rfl 102 rfl (.slice Av xs.length cv) rfl rfl sizeBytesM (by rw [HEL.out]; decide) _ rfl ?_; clear hS; intro w6 hS; replace hS : HS NoF w w6 [.os 5 (.slice Av xs.length cv) (ints .u8 xs), .blk g3 70 (E0.set 102 (.slice Av xs.length cv)), .blk g2 70 RZ, .blk g1 70 R] := hS; rw [HEB.out] at hS)
    | (refine hs_loadW hS 1 rfl rfl 70 _ rfl rfl 108 sizeRow (HEVL.out _) _ undRow.choose_spec rfl _ rfl ?_)
    | (refine hs_storeW hS 2 rfl rfl 70 _ _ rfl rfl (endC id kind 3 DZ (.slice Av xs.length cv)) rfl (HEV.out _ rfl) 108 sizeRow (HEVL.out _) HZL.out _ rfl ?_; clear hS; intro w9 hS)
    | fail)
  refine bodyPost_ret (results_strR rfl _ _ g2 _ (endC id kind 3 DZ (.slice Av xs.length cv)) _ rfl (hS.blk 2 rfl) Tryd.underlying70 (by rw [HEVL.out]; exact sizeRow)) rfl ⟨_, rfl, hS.os 0 rfl, hS.bel⟩
end Go.Proofs.YtckcdngnkpfcfaaDoor
