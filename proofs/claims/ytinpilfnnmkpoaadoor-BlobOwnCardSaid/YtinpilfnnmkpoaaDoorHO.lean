/- Steps over memory that is a list of things side by side; drawn regions whose worlds stay letters. -/
import Derived.Test.YtinpilfnnmkpoaaDoorH
import Derived.Test.YtinpilfnnmkpoaaDoorSwap
import Derived.Deep.MidRow
namespace Go.Cour
open Go.RowKit
section
variable {P : Program} {ops : Array Oper} {N : Act → World → Prop} {T : World → Prop}
/-- A region that draws its order, from any world of which T holds. -/
theorem wp_region_L {id : Nat} {a : Act} {w : World} {Q : Exit → Act → World → Prop} (T : World → Prop) (hm : P.follows .mixedOrders = true) (hc : chkT ops = true) (hT : T w.drew) (h : ∀ w', T w' → wpT P ops (fun a' w' => Q .normal a' w') T (List.range ops.size) a w') : (Code.region id ops true).wp P Q a w :=
  wp_region_T T hm hc hT (h _ hT)
/-- Behind an operation that acts: T holds still. -/
def OnT (P : Program) (ops : Array Oper) (N : Act → World → Prop) (T : World → Prop) (rest : List Nat) (a : Act) (ex : Exit) (a' : Act) (w' : World) : Prop := ex = .normal ∧ a'.defers = a.defers ∧ T w' ∧ ∀ w'', T w'' → wpT P ops N T rest a' w''
/-- Behind one that stands in one order with all others: another fact may hold. -/
def OnX (P : Program) (ops : Array Oper) (N : Act → World → Prop) (rest : List Nat) (a : Act) (ex : Exit) (a' : Act) (w' : World) : Prop := ex = .normal ∧ a'.defers = a.defers ∧ ∃ T' : World → Prop, T' w' ∧ ∀ w'', T' w'' → wpT P ops N T' rest a' w''
theorem OnT.mk {rest : List Nat} {a a' : Act} {w' : World} (hd : a'.defers = a.defers) (h : T w') (h2 : ∀ w'', T w'' → wpT P ops N T rest a' w'') : OnT P ops N T rest a .normal a' w' := ⟨rfl, hd, h, h2⟩
theorem OnX.mk {rest : List Nat} {a a' : Act} {w' : World} (T' : World → Prop) (hd : a'.defers = a.defers) (h : T' w') (h2 : ∀ w'', T' w'' → wpT P ops N T' rest a' w'') : OnX P ops N rest a .normal a' w' := ⟨rfl, hd, T', h, h2⟩
theorem wpT_actL {i : Nat} {o : Oper} {rest : List Nat} {a : Act} {w : World} (hi : ops[i]? = some o) (hk : readK o.op = false) (h : wpList P ops (OnT P ops N T rest a) [o] a w) : wpT P ops N T (i :: rest) a w := by
  simp only [wpT, hi]
  rw [if_neg (by rw [hk]; decide)]
  refine (V1_of (K := fun a' w' => T w' ∧ ∀ w'', T w'' → wpT P ops N T rest a' w'') h).mono fun u w' hu => ?_
  split
  · exact ⟨T, hu.1, hu.2 _ hu.1⟩
  · exact ⟨hu.1, hu.2 _ hu.1⟩
theorem wpT_totL {i : Nat} {o : Oper} {rest : List Nat} {a : Act} {w : World} (hi : ops[i]? = some o) (hk : readK o.op = false) (ht : totB ops i = true) (h : wpList P ops (OnX P ops N rest a) [o] a w) : wpT P ops N T (i :: rest) a w := by
  simp only [wpT, hi]
  rw [if_neg (by rw [hk]; decide)]
  refine (V1_of (K := fun a' w' => ∃ T' : World → Prop, T' w' ∧ ∀ w'', T' w'' → wpT P ops N T' rest a' w'') h).mono fun u w' hu => ?_
  obtain ⟨T', h1, h2⟩ := hu
  rw [if_pos ht]; exact ⟨T', h1, h2 _ h1⟩
end
section
variable {P : Program} {ops : Array Oper} {rest : List Oper} {o : Oper} {a : Act} {w w0 : World} {Q : Exit → Act → World → Prop} {F : Nat → Prop} {L : List Ent}
theorem listed_one {w : World} {g : Nat} {t : TypeId} {cs : List Value} (h : Blk w g t cs) (j : Nat) (v : Value) : (w.setCells g j [v]) = w.setCell ⟨g, j, none⟩ v := by
  simp [World.setCells]
theorem there_blk {w : World} {g : Nat} {t : TypeId} {cs : List Value} (h : Blk w g t cs) {j n : Nat} (hn : j + n ≤ cs.length) : w.there g j n := fun i hi => by
  refine ⟨?_, ?_⟩
  · rw [h.cell, List.getElem?_eq_getElem (by omega)]; rfl
  · exact h.frozen _
theorem setCells_blk {g : Nat} {t : TypeId} : ∀ (vs : List Value) {w : World} {cs : List Value} (j : Nat), Blk w g t cs → j + vs.length ≤ cs.length → Blk (w.setCells g j vs) g t (cs.take j ++ vs ++ cs.drop (j + vs.length))
  | [], w, cs, j, h, _ => by simpa [World.setCells] using h
  | v :: vs, w, cs, j, h, hl => by
    have h1 := h.set j v
    have h2 := setCells_blk vs (j + 1) h1 (by simp at hl ⊢; omega)
    simp only [World.setCells]
    have e : (cs.set j v).take (j + 1) ++ vs ++ (cs.set j v).drop (j + 1 + vs.length) = cs.take j ++ (v :: vs) ++ cs.drop (j + (v :: vs).length) := by
      simp only [List.length_cons] at hl
      rw [List.drop_set_of_lt (by omega), List.take_succ_eq_append_getElem (by simp; omega), List.getElem_set_self, List.take_set_of_le (Nat.le_refl _)]
      simp [Nat.add_assoc, Nat.add_comm 1]
    rw [e] at h2
    exact h2
theorem setCells_upd {g : Nat} : ∀ (vs : List Value) (w : World) (j : Nat), Upd (fun k => k = g) w (w.setCells g j vs)
  | [], w, j => Upd.refl _ _
  | v :: vs, w, j => by
    simp only [World.setCells]
    exact ((Upd.setCell w ⟨g, j, none⟩ v).mono fun _ _ hk => hk).trans (setCells_upd vs _ (j + 1)) fun _ _ hk => hk
theorem HS.setCells (h : HS F w0 w L) (i : Nat) {g : Nat} {t : TypeId} {cs : List Value} (hi : L[i]? = some (.blk g t cs)) (j : Nat) (vs : List Value) (hl : j + vs.length ≤ cs.length) : HS F w0 (w.setCells g j vs) (L.set i (.blk g t (cs.take j ++ vs ++ cs.drop (j + vs.length)))) :=
  h.upd1 i hi (setCells_upd vs w j) _ (setCells_blk vs j (h.blk i hi) hl) fun k hk => .inl hk
/-- A cell stored. -/
theorem hs_store1 (hS : HS F w0 w L) (i : Nat) {g : Nat} {t : TypeId} {cs : List Value} (hi : L[i]? = some (.blk g t cs)) (hw : Region.wanted o (yielded ops a.tmps) = true) (ty : TypeId) (x y : Operand) (ho : o.op = .store ty x y)
    (j : Nat) (hx : a.eval x = .pointer (some ⟨g, j, none⟩)) (v : Value) (hv : a.eval y = v) (h1 : v.oneCell' = true) (hs : (P.info? ty).map (·.size) = some 1) (hj : j < cs.length) (d : Option Tmp) (hd : o.dst = d)
    (h : ∀ w', HS F w0 w' (L.set i (.blk g t (cs.set j v))) → wpList P ops Q rest (a.put d undef) w') : wpList P ops Q (o :: rest) a w := by
  subst hd
  refine wpList_step fun K hK => ?_
  rw [if_pos hw]
  have hc : v.cells = #[v] := by cases v <;> first | rfl | cases h1
  have hb := hS.blk i hi
  have hcell : w.cell? ⟨g, j, none⟩ = some cs[j] := by rw [hb.cell, List.getElem?_eq_getElem hj]
  have hfz := hb.frozen j
  have hrun : (storeVar ty ⟨g, j, none⟩ v).run P w = .ok () (w.setCell ⟨g, j, none⟩ v) := by
    cases hq : P.info? ty with
    | none => simp [hq] at hs
    | some z =>
      have hz : z.size = 1 := by simpa [hq] using hs
      have := run_storeVar_mid (P := P) w g j ty #[v] (there_blk hb (by simp; omega)) (by simp [hq, hz]) (by simpa using h1)
      have h2 : storeVar ty ⟨g, j, none⟩ v = storeVar ty ⟨g, j, none⟩ (.agg #[v]) := by
        have e1 : (Value.agg #[v]).cells = #[v] := rfl
        unfold storeVar
        rw [hc, e1]
      rw [h2, this, listed_one hb]
  unfold Oper.wp execOp
  simp only [ho, hx, hv, Instr.storeAt, Instr.sureAddr, Sem.run_bind, Sem.run_pure, Result.andThen_ok, hrun]
  exact hK _ _ (h _ (hS.setCell i hi j v))
/-- Cells stored, a whole array or struct. -/
theorem hs_storeN (hS : HS F w0 w L) (i : Nat) {g : Nat} {t : TypeId} {cs : List Value} (hi : L[i]? = some (.blk g t cs)) (hw : Region.wanted o (yielded ops a.tmps) = true) (ty : TypeId) (x y : Operand) (ho : o.op = .store ty x y)
    (j : Nat) (hx : a.eval x = .pointer (some ⟨g, j, none⟩)) (vs : List Value) (hv : a.eval y = .agg vs.toArray) (h1 : ∀ v ∈ vs, v.oneCell' = true) (n : Nat) (hs : (P.info? ty).map (·.size) = some n) (hn : vs.length = n) (hj : j + n ≤ cs.length) (d : Option Tmp) (hd : o.dst = d)
    (h : ∀ w', HS F w0 w' (L.set i (.blk g t (cs.take j ++ vs ++ cs.drop (j + n)))) → wpList P ops Q rest (a.put d undef) w') : wpList P ops Q (o :: rest) a w := by
  subst hd hn
  refine wpList_step fun K hK => ?_
  rw [if_pos hw]
  exact wp_store_mid ty x y ho g j vs.toArray hx hv (by simpa using there_blk (hS.blk i hi) hj) (by simpa using hs) (all_oneCell_toArray h1) (hK _ _ (h _ (hS.setCells i hi j vs hj)))
/-- Cells loaded: an array or a struct, whole. -/
theorem hs_loadN (hS : HS F w0 w L) (i : Nat) {g : Nat} {t : TypeId} {cs : List Value} (hi : L[i]? = some (.blk g t cs)) (hw : Region.wanted o (yielded ops a.tmps) = true) (ty : TypeId) (x : Operand) (ho : o.op = .load ty x)
    (j : Nat) (hx : a.eval x = .pointer (some ⟨g, j, none⟩)) (vs : List Value) (hc : ∀ m v, vs[m]? = some v → cs[j + m]? = some v) (n : Nat) (hs : (P.info? ty).map (·.size) = some n) (hn : vs.length = n) (b : TypeDesc) (hu : P.underlying ty = some b) (hb : b.isRow = true) (d : Option Tmp) (hd : o.dst = d)
    (h : wpList P ops Q rest (a.put d (.agg vs.toArray)) w) : wpList P ops Q (o :: rest) a w := by
  subst hd hn
  refine wpList_step fun K hK => ?_
  rw [if_pos hw]
  exact wp_load_mid ty x ho g j hx vs b (fun m v hv => by rw [(hS.blk i hi).cell]; exact hc m v hv) hu hb hs (hK _ _ h)
/-- A cell loaded. -/
theorem hs_load1 (hS : HS F w0 w L) (i : Nat) {g : Nat} {t : TypeId} {cs : List Value} (hi : L[i]? = some (.blk g t cs)) (hw : Region.wanted o (yielded ops a.tmps) = true) (ty : TypeId) (x : Operand) (ho : o.op = .load ty x)
    (j : Nat) (hx : a.eval x = .pointer (some ⟨g, j, none⟩)) (v : Value) (hc : cs[j]? = some v) (b : TypeDesc) (hu : P.underlying ty = some b) (hb : b.isRow = false) (d : Option Tmp) (hd : o.dst = d)
    (h : wpList P ops Q rest (a.put d v) w) : wpList P ops Q (o :: rest) a w := by
  subst hd
  refine wpList_step fun K hK => ?_
  rw [if_pos hw]
  have hcell : w.cell? ⟨g, j, none⟩ = some v := by rw [(hS.blk i hi).cell]; exact hc
  have hagg : (isAgg ty).run P w = .ok false w := by
    unfold isAgg
    rw [Sem.run_bind, run_underlying hu w]
    cases b <;> simp_all
  have hrun : (loadVar ty ⟨g, j, none⟩).run P w = .ok v w := by
    simp [loadVar, Sem.run_bind, hagg, hcell]
  unfold Oper.wp execOp
  simp only [ho, hx, Instr.loadAt, Instr.sureAddr, Sem.run_bind, Sem.run_pure, Result.andThen_ok, hrun]
  exact hK _ _ h
/-- A whole block stored anew. -/
theorem hs_storeW (hS : HS F w0 w L) (i : Nat) {g : Nat} {t : TypeId} {cs : List Value} (hi : L[i]? = some (.blk g t cs)) (hw : Region.wanted o (yielded ops a.tmps) = true) (ty : TypeId) (x y : Operand) (ho : o.op = .store ty x y)
    (hx : a.eval x = .pointer (some ⟨g, 0, none⟩)) (vs : List Value) (hv : a.eval y = .agg vs.toArray) (h1 : ∀ v ∈ vs, v.oneCell' = true) (n : Nat) (hs : (P.info? ty).map (·.size) = some n) (hn : vs.length = n) (hc : cs.length = n) (d : Option Tmp) (hd : o.dst = d)
    (h : ∀ w', HS F w0 w' (L.set i (.blk g t vs)) → wpList P ops Q rest (a.put d undef) w') : wpList P ops Q (o :: rest) a w := by
  refine hs_storeN hS i hi hw ty x y ho 0 hx vs hv h1 n hs hn (by omega) d hd fun w' hS' => h w' ?_
  rw [List.take_zero, List.nil_append, Nat.zero_add, List.drop_eq_nil_of_le (by omega), List.append_nil] at hS'
  exact hS'
/-- A whole block loaded. -/
theorem hs_loadW (hS : HS F w0 w L) (i : Nat) {g : Nat} {t : TypeId} {vs : List Value} (hi : L[i]? = some (.blk g t vs)) (hw : Region.wanted o (yielded ops a.tmps) = true) (ty : TypeId) (x : Operand) (ho : o.op = .load ty x)
    (hx : a.eval x = .pointer (some ⟨g, 0, none⟩)) (n : Nat) (hs : (P.info? ty).map (·.size) = some n) (hn : vs.length = n) (b : TypeDesc) (hu : P.underlying ty = some b) (hb : b.isRow = true) (d : Option Tmp) (hd : o.dst = d)
    (h : wpList P ops Q rest (a.put d (.agg vs.toArray)) w) : wpList P ops Q (o :: rest) a w :=
  hs_loadN hS i hi hw ty x ho 0 hx vs (fun m v hv => by rw [Nat.zero_add]; exact hv) n hs hn b hu hb d hd h
end
theorem bodyPost_void {P : Program} {fn : Func} {R : Ending → World → Prop} {a : Act} {w : World} (hr : fn.results = #[]) (hd : a.defers = []) (hR : R (.returned (.tuple #[])) w) : bodyPost P fn R .normal a w :=
  bodyPost_end (results_none hr _ _ _) hd hR
end Go.Cour
