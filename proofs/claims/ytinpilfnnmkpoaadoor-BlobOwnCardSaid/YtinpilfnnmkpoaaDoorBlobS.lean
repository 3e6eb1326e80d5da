/- A place of one's own slice written; All of a store of one. -/
import Derived.Test.YtinpilfnnmkpoaaDoorBlobR
namespace Go.Cour
open Go.RowKit
section
variable {P : Program} {ops : Array Oper} {rest : List Oper} {o : Oper} {a : Act} {w w0 : World} {Q : Exit → Act → World → Prop} {F : Nat → Prop} {L : List Ent}
/-- A place of one's own slice stored. -/
theorem hs_storeS (hS : HS F w0 w L) (i : Nat) {e : TypeId} {g off n c : Nat} {cs : List Value} (hi : L[i]? = some (.os e (.slice (some ⟨g, off, none⟩) n c) cs)) (hw : Region.wanted o (yielded ops a.tmps) = true) (ty : TypeId) (x y : Operand) (ho : o.op = .store ty x y)
    (j : Nat) (hx : a.eval x = .pointer (some ⟨g, off + j, none⟩)) (v : Value) (hv : a.eval y = v) (h1 : v.oneCell' = true) (hs : (P.info? ty).map (·.size) = some 1) (hj : j < cs.length) (d : Option Tmp) (hd : o.dst = d)
    (h : ∀ w', HS F w0 w' (L.set i (.os e (.slice (some ⟨g, off, none⟩) n c) (cs.set j v))) → wpList P ops Q rest (a.put d undef) w') : wpList P ops Q (o :: rest) a w := by
  subst hd
  refine wpList_step fun K hK => ?_
  rw [if_pos hw]
  have hc : v.cells = #[v] := by cases v <;> first | rfl | cases h1
  have hos := hS.os i hi
  obtain ⟨A', c', hv', _, _, _, _, hcell⟩ := hos.parts
  obtain ⟨g', o', he, hcl⟩ := hcell j cs[j] (List.getElem?_eq_getElem hj)
  injection hv' with hv1
  rw [← hv1] at he
  injection he with he; injection he with he1 he2
  subst he1 he2
  have hfz := hos.frozen rfl (off + j)
  have hrun : (storeVar ty ⟨g, off + j, none⟩ v).run P w = .ok () (w.setCell ⟨g, off + j, none⟩ v) := by
    cases hq : P.info? ty with
    | none => simp [hq] at hs
    | some z =>
      have hz : z.size = 1 := by simpa [hq] using hs
      have := run_storeVar_mid (P := P) w g (off + j) ty #[v] (fun i hi => by
        have : i = 0 := by simpa using hi
        subst this
        exact ⟨by rw [Nat.add_zero, hcl]; rfl, by rw [Nat.add_zero]; exact hfz⟩) (by simp [hq, hz]) (by simpa using h1)
      have h2 : storeVar ty ⟨g, off + j, none⟩ v = storeVar ty ⟨g, off + j, none⟩ (.agg #[v]) := by
        have e1 : (Value.agg #[v]).cells = #[v] := rfl
        unfold storeVar
        rw [hc, e1]
      rw [h2, this]
      simp [World.setCells]
  unfold Oper.wp execOp
  simp only [ho, hx, hv, Instr.storeAt, Instr.sureAddr, Sem.run_bind, Sem.run_pure, Result.andThen_ok, hrun]
  exact hK _ _ (h _ (hS.upd1 i hi ((Upd.setCell w ⟨g, off + j, none⟩ v).mono fun k _ hk => by
    have : k = g := hk
    subst this; rfl) _ (hos.set rfl j v hj) (fun k hk => .inl hk)))
end
end Go.Cour
namespace Go.Proofs.YtinpilfnnmkpoaaDoor
open Go.RowKit Go.Cour
theorem allH1 {w0 w : World} {F : Nat → Prop} {gs : Nat} {st : StoreD} {L : List Ent} (D : List Int) (h : HS NoF w0 w (entSto F gs st :: L)) (hD : idRows st.l = [ints .u8 D]) (hl1 : st.l.length ≤ 1000000) :
    Calls Tryd.prog 17 #[.pointer (some ⟨gs, 0, none⟩)] w fun e w' => ∃ (g c : Nat) (cs : List Value), e = .returned (.slice (some ⟨g, 0, none⟩) 1 c) ∧ 1 ≤ c ∧ 32 ≤ cs.length ∧ (∀ (j : Nat) (u : Value), (ints .u8 D)[j]? = some u → cs[j]? = some u) ∧ HS NoF w0 w' (entSto F gs st :: .blk g 30 cs :: L) := by
  obtain ⟨v, vs, F2, hs⟩ := h.get (i := 0) rfl
  refine (ball_calls hs hl1).mono fun e w' ⟨v', he, ho, hn, hb⟩ => ?_
  rw [hD] at ho
  obtain ⟨⟨h1, h2⟩, h3⟩ := ho
  rcases h2 with ⟨_, h2⟩ | ⟨g, cap, cur, rfl, hg, hh, hn1, hm, hs2, ht⟩
  · simp at h2
  · have hD32 : (ints .u8 D).length = 32 := h3 _ (by simp)
    have hge : w.heap.size ≤ g := hn g rfl
    have hbk : Blk w' g 30 cur.toList := by unfold Blk; simpa using hh
    have h9 := h.push hb (.blk g 30 cur.toList) hbk (fun k hk => by have : k = g := hk; omega)
    refine ⟨g, cap, cur.toList, he, hn1, ?_, fun j u hu => ?_, h9.perm (List.Perm.swap _ _ _)⟩
    · simp at hn1
      have : 1 * 32 ≤ cap * 32 := Nat.mul_le_mul_right _ hn1
      simp; omega
    · have hj := (List.getElem?_eq_some_iff.1 hu).1
      have h4 : (ints .u8 D)[j]? = (List.take (1 * 32) cur.toList)[j]? := by rw [show (1 * 32) = [ints .u8 D].length * 32 from rfl, ht]; simp
      rw [hu, List.getElem?_take, if_pos (by omega)] at h4
      exact h4.symm
end Go.Proofs.YtinpilfnnmkpoaaDoor
