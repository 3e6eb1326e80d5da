import Derived.Lib.SliceRun
import Derived.Great.BuildSlice
import Derived.Great.FillDense
import Derived.Test.YtinpilfnnmkpoaaDoorProg
import Derived.OwnWalk
import Derived.Laws.OwnMore
import Derived.StillTailTactics
import Derived.Deep.QuietTactic
import Derived.BigQuiet
import Derived.Laws.Closers25b
import Derived.Test.YtinpilfnnmkpoaaDoorMgBH0
import Derived.Test.YtinpilfnnmkpoaaDoorMgBH1
set_option linter.unusedSimpArgs false
set_option linter.unusedVariables false
/- slices.DeleteFunc over the store's blobs. -/
namespace Go.Proofs.YtinpilfnnmkpoaaDoor
open Go.RowKit Go.Cour
/-- The elements that are kept. -/
def keptL (p : Item → Bool) (vs : List Value) (l : List Item) : List Value := ((vs.zip l).filter fun y => !p y.2).map (·.1)
theorem kept_take_succ {p : Item → Bool} {vs : List Value} {l : List Item} {i : Nat} {u : Value} {x : Item} (hu : vs[i]? = some u) (hx : l[i]? = some x) :
    keptL p (vs.take (i + 1)) (l.take (i + 1)) = keptL p (vs.take i) (l.take i) ++ (if p x then [] else [u]) := by
  have h1 : vs.take (i + 1) = vs.take i ++ [u] := by rw [List.take_add_one, hu]; rfl
  have h2 : l.take (i + 1) = l.take i ++ [x] := by rw [List.take_add_one, hx]; rfl
  have h3 : (vs.take i).length = (l.take i).length := by
    have := (List.getElem?_eq_some_iff.1 hu).1
    have := (List.getElem?_eq_some_iff.1 hx).1
    simp; omega
  unfold keptL
  rw [h1, h2, List.zip_append h3, List.filter_append, List.map_append]
  cases hp : p x <;> simp [hp]
theorem kept_none {p : Item → Bool} {vs : List Value} {l : List Item} (hl : vs.length = l.length) : ∀ i, (∀ j x, j < i → l[j]? = some x → p x = false) → i ≤ l.length → keptL p (vs.take i) (l.take i) = vs.take i
  | 0, _, _ => by simp [keptL]
  | i + 1, h, hi => by
    have hu : vs[i]? = some vs[i] := List.getElem?_eq_getElem (by omega)
    have hx : l[i]? = some l[i] := List.getElem?_eq_getElem (by omega)
    rw [kept_take_succ hu hx, kept_none hl i (fun j x hj => h j x (by omega)) (by omega), h i _ (by omega) hx, List.take_add_one, hu]
    rfl
theorem kept_all {p : Item → Bool} {vs : List Value} {l : List Item} (hl : vs.length = l.length) (h : ¬ l.findIdx p < l.length) : keptL p vs l = vs := by
  have h1 := kept_none (p := p) hl l.length (fun j x hj hx => by
    have := List.not_of_lt_findIdx (xs := l) (p := p) (i := j) (by have := List.findIdx_le_length (p := p) (xs := l); omega)
    rw [List.getElem?_eq_getElem hj] at hx
    injection hx with hx
    rw [hx] at this
    simpa using this) (Nat.le_refl _)
  rw [List.take_length, ← hl, List.take_length] at h1
  exact h1
/-- The row while it is made shorter. -/
structure RowSt (w wr : World) (gv c n i j : Nat) (p : Item → Bool) (vs : List Value) (l : List Item) : Prop where
  only : Only gv w wr
  row : ∃ cs : List Value, Blk wr gv 59 cs ∧ cs.length = c ∧ (∀ a, a < i → cs[a]? = (keptL p (vs.take j) (l.take j))[a]?) ∧ (∀ a, j ≤ a → a < n → cs[a]? = vs[a]?)
  len : (keptL p (vs.take j) (l.take j)).length = i
theorem Only.kept {g : Nat} {w w' : World} (h : Only g w w') {v : Value} {A : Option Addr} : True := trivial
theorem blk_setCells {g : Nat} {t : TypeId} : ∀ (us : List Value) (o : Nat) (w : World) (cs : List Value), Blk w g t cs → ∃ cs', Blk (w.setCells g o us) g t cs' ∧ cs'.length = cs.length ∧ (∀ a, a < o → cs'[a]? = cs[a]?) ∧ Only g w (w.setCells g o us)
  | [], o, w, cs, h => ⟨cs, h, rfl, fun _ _ => rfl, Only.refl _ _⟩
  | u :: us, o, w, cs, h => by
    obtain ⟨cs', h1, h2, h3, h4⟩ := blk_setCells us (o + 1) _ _ (h.set o u)
    refine ⟨cs', h1, by rw [h2, List.length_set], fun a ha => ?_, ((Only.refl g w).setCell o u).trans h4⟩
    rw [h3 a (by omega), List.getElem?_set_ne (by omega)]
theorem clear_step {P : Program} {ops : Array Oper} {rest : List Oper} {o : Oper} {a : Act} {w : World} {Q : Exit → Act → World → Prop} (hgd : o.guard = none) (x : Operand) (t e : TypeId)
    (ho : o.op = .call { callee := .builtin .clear, args := #[x], argTypes := #[t] }) (ht : P.underlying t = some (.slice e)) (z : Value) (hv : ∀ w, (zeroValue e).run P w = .ok z w) (hz : z.cells = #[z]) (h1 : z.oneCell' = true)
    (g i n c : Nat) (hx : a.eval x = .slice (some ⟨g, i, none⟩) n c) (hn : 0 < n) (t' : TypeId) (cs : List Value) (hg : Blk w g t' cs) (hl : i + n ≤ cs.length)
    (h : ∀ w' cs', Blk w' g t' cs' → cs'.length = cs.length → (∀ b, b < i → cs'[b]? = cs[b]?) → Only g w w' → wpList P ops Q rest (a.put o.dst (.tuple #[])) w') : wpList P ops Q (o :: rest) a w := by
  refine wpList_plain hgd fun K hK => ?_
  have hr := Lib.run_clear_slice (P := P) w t e o.type z ht hv hz h1 g i n c hn (fun j hj => by rw [hg.cell, List.getElem?_eq_getElem (by omega)]; rfl) (fun j hj => hg.frozen _)
  obtain ⟨cs', h2, h3, h4, h5⟩ := blk_setCells (List.replicate n z) i w cs hg
  unfold Oper.wp execOp
  simp only [ho, resolve, invoke, builtin, Sem.run_bind, Sem.run_pure, Result.andThen_ok, List.map_toArray, List.map_cons, List.map_nil, hx, hr]
  exact hK _ _ (h _ cs' h2 h3 h4 h5)
theorem zeroPI : ∀ w, (zeroValue 59).run Tryd.prog w = .ok (.pointer none) w := fun w => by
  have h2 : ∃ i, Tryd.prog.info? 59 = some i ∧ i.zero = some (.pointer none) := by
    cases hi : Tryd.prog.info? 59 with
    | none =>
      have h1 : (Tryd.prog.info? 59).isSome = true := by kernel_rfl
      rw [hi] at h1; cases h1
    | some i =>
      refine ⟨i, rfl, ?_⟩
      have h3 : (Tryd.prog.info? 59).bind (fun i => i.zero.bind fun z => match z with | .pointer none => some () | _ => none) = some () := by kernel_rfl
      rw [hi] at h3
      simp only [Option.bind_some] at h3
      cases hz : i.zero with
      | none => rw [hz] at h3; cases h3
      | some z =>
        rw [hz] at h3
        simp only [Option.bind_some] at h3
        split at h3
        · rfl
        · cases h3
  obtain ⟨i, hi, hz⟩ := h2
  simp [zeroValue, typeInfo, hi, hz]
/-- What a closure says of a blob, wherever the store's own row stands as it may. -/
abbrev SaysT (w : World) (gc : Nat) (v : Value) (vs : List Value) (l : List Item) (p : Item → Bool) : Prop := ∀ w2 : World, (∀ k, v.ownBlock ≠ some k → w2.heap[k]? = w.heap[k]?) → ∀ (i : Nat) (x : Item) (u : Value), l[i]? = some x → vs[i]? = some u →
  Calls Tryd.prog 31 #[u, .pointer (some ⟨gc, 0, none⟩)] w2 fun e w3 => e = .returned (.bool (p x)) ∧ ∃ q, w3 = w2.drewN q
set_option maxHeartbeats 1000000 in
set_option maxRecDepth 100000 in
theorem idxT_calls {w : World} {v : Value} {vs : List Value} {l : List Item} {gc : Nat} (p : Item → Bool) (ho : OwnV w 0 59 v vs) (hvl : vs.length = l.length) (hp : SaysT w gc v vs l p) (hlen : l.length ≤ 1000000) :
    Calls Tryd.prog 40 #[v, .func (.func 31) #[] #[.pointer (some ⟨gc, 0, none⟩)]] w fun e w' => e = .returned (.int .i64 (if l.findIdx p < l.length then (l.findIdx p : Int) else -1)) ∧ ∃ q, w' = w.drewN q := by
  obtain ⟨A, c, hv, hc, _, hcell⟩ := ho.parts
  rw [hvl] at hv hc hcell
  obtain ⟨n, hn⟩ : ∃ n, Hd (l.length = n) := ⟨_, ⟨rfl⟩⟩
  obtain ⟨K, hK⟩ : ∃ K, Hd (l.findIdx p = K) := ⟨_, ⟨rfl⟩⟩
  have hKn : K ≤ n := by rw [← hK.out, ← hn.out]; exact List.findIdx_le_length
  rw [hn.out] at hv hc hcell hlen
  rw [hn.out, hK.out]
  obtain ⟨R, hR⟩ : ∃ R, Hd ((if K < n then (K : Int) else -1) = R) := ⟨_, ⟨rfl⟩⟩
  rw [hR.out]
  subst hv
  have HC := hid hcell
  have HP := hid hp
  have HVL := hid hvl
  clear hcell hp ho hvl
  go_enter Tryd.func40, Tryd.ntmps40
  go_wp2_with fail
  go_loopg [8] (n + 1) (fun kq v8 wr => ∃ i : Nat, i ≤ K ∧ v8 = .int .i64 i ∧ Hd (kq + i = n + 1) ∧ Hd (∃ q, wr = w.drewN q))
  case atStart => exact ⟨0, by omega, rfl, hid (by omega), hid ⟨0, rfl⟩⟩
  case round =>
    obtain ⟨i, hi, rfl, hq, hw⟩ := hrel
    obtain ⟨q, rfl⟩ := hw.out
    by_cases hlt : i < n
    · obtain ⟨u, hu⟩ : ∃ u, Hd (vs[i]? = some u) := ⟨_, hid (List.getElem?_eq_getElem (by rw [HVL.out, hn.out]; exact hlt))⟩
      obtain ⟨x, hx⟩ : ∃ x, Hd (l[i]? = some x) := ⟨_, hid (List.getElem?_eq_getElem (by rw [hn.out]; exact hlt))⟩
      obtain ⟨gv, hA, hce⟩ := HC.out i hlt
      subst hA
      rw [hu.out] at hce
      have hce2 : (w.drewN q).cell? ⟨gv, i, none⟩ = some u := hce
      have hlt2 : (i : Int) < n := by omega
      clear hce
      by_cases hik : i = K
      · have he : Hd (p x = true) := hid (by
          have h1 := List.findIdx_getElem (p := p) (xs := l) (w := by rw [hK.out, hn.out, ← hik]; exact hlt)
          have h2 := hx.out
          subst hik
          have h3 : l[l.findIdx p]? = some x := by rw [hK.out]; exact h2
          rw [List.getElem?_eq_getElem (by rw [hK.out, hn.out]; exact hlt)] at h3
          injection h3 with h3
          rw [← h3]; exact h1)
        have hKn2 := hid (show K < n by omega)
        subst hik
        go_wp2_with (first
          | (go_at_call 31; refine (HP.out (w.drewN q) (fun _ _ => rfl) i x u hx.out hu.out).mono ?_; rintro e w2 ⟨he2, q2, hw2⟩; rw [he.out] at he2; subst he2)
          | fail)
        go_ret
        have hR2 := hR.out; rw [if_pos hKn2.out] at hR2; subst hR2; exact ⟨rfl, q + q2, rfl⟩
      · have he : Hd (p x = false) := hid (by
          have h1 := List.not_of_lt_findIdx (xs := l) (p := p) (i := i) (by rw [hK.out]; omega)
          have h2 := hx.out
          rw [List.getElem?_eq_getElem (by rw [hn.out]; exact hlt)] at h2
          injection h2 with h2
          rw [h2] at h1
          simpa using h1)
        have hik := hid hik
        go_wp2_with (first
          | (go_at_call 31; refine (HP.out (w.drewN q) (fun _ _ => rfl) i x u hx.out hu.out).mono ?_; rintro e w2 ⟨he2, q2, hw2⟩; rw [he.out] at he2; subst he2)
          | fail)
        go_roundg (gk - 1)
        case measure => have := hq.out; omega
        case rel => exact ⟨i + 1, by have := hik.out; omega, by go_num, hid (by have := hq.out; omega), hid ⟨q + q2, rfl⟩⟩
    · have hin : i = n := by omega
      have hKn2 := hid (show ¬ K < n by omega)
      subst hin
      go_wp2_with fail
      go_ret
      have hR2 := hR.out; rw [if_neg hKn2.out] at hR2; subst hR2; exact ⟨rfl, q, rfl⟩
set_option maxHeartbeats 1000000 in
set_option maxRecDepth 100000 in
theorem delT_calls {w : World} {v : Value} {vs : List Value} {l : List Item} {gc : Nat} (p : Item → Bool) (ho : OwnV w 0 59 v vs) (hvl : vs.length = l.length) (hp : SaysT w gc v vs l p) (hu : ∀ (i : Nat) (u : Value), vs[i]? = some u → ∃ a, u = Value.pointer a) (hlen : l.length ≤ 1000000) :
    Calls Tryd.prog 30 #[v, .func (.func 31) #[] #[.pointer (some ⟨gc, 0, none⟩)]] w fun e w' => ∃ v', e = .returned v' ∧ OwnV w' 0 59 v' (keptL p vs l) ∧ (∀ k, v'.ownBlock = some k → v.ownBlock = some k) ∧ Upd (fun k => v.ownBlock = some k) w w' := by
  have HO := hid ho
  have HP := hid hp
  have HVL := hid hvl
  have HLEN := hid hlen
  have HU := hid hu
  clear hu
  obtain ⟨A, c, hv, hc, hA, hcell⟩ := ho.parts
  rw [hvl] at hv hc hcell
  obtain ⟨n, hn⟩ : ∃ n, Hd (l.length = n) := ⟨_, ⟨rfl⟩⟩
  obtain ⟨K, hK⟩ : ∃ K, Hd (l.findIdx p = K) := ⟨_, ⟨rfl⟩⟩
  have hKn : K ≤ n := by rw [← hK.out, ← hn.out]; exact List.findIdx_le_length
  rw [hn.out] at hv hc hcell hlen
  subst hv
  clear hp ho hvl
  by_cases hk : K < n
  · obtain ⟨gv, hA2, _⟩ := hcell K hk
    subst hA2
    obtain ⟨cs0, hb0, hcl0, hcv0⟩ : ∃ cs0 : List Value, Blk w gv 59 cs0 ∧ cs0.length = c ∧ ∀ a, a < n → cs0[a]? = vs[a]? := by
      rcases HO.out.2 with ⟨hno, _⟩ | ⟨g, cap, cur, hv2, _, hh, hn2, hm2, hs2, ht2⟩
      · cases hno
      · injection hv2 with h1 h2 h3
        injection h1 with h1
        injection h1 with h1
        subst h1 h3
        refine ⟨cur.toList, by unfold Blk; simpa using hh, by simpa using hs2, fun a ha => ?_⟩
        have h4 : vs[a]? = (cur.toList.take (vs.length * 1))[a]? := by rw [ht2]
        rw [h4, List.getElem?_take, if_pos (by rw [HVL.out, hn.out]; omega)]
    have hif := hid (show (if K < n then (K : Int) else -1) = K by rw [if_pos hk])
    have hne1 : ((K : Int) == -1) = false := by rw [beq_eq_false_iff_ne]; omega
    have hK0 : Hd (keptL p (vs.take (K + 1)) (l.take (K + 1)) = vs.take K) := hid (by
      obtain ⟨u, hu⟩ : ∃ u, vs[K]? = some u := ⟨_, List.getElem?_eq_getElem (by rw [HVL.out, hn.out]; exact hk)⟩
      obtain ⟨x, hx⟩ : ∃ x, l[K]? = some x := ⟨_, List.getElem?_eq_getElem (by rw [hn.out]; exact hk)⟩
      have hpx : p x = true := by
        have h1 := List.findIdx_getElem (p := p) (xs := l) (w := by rw [hK.out, hn.out]; exact hk)
        have h3 : l[l.findIdx p]? = some x := by rw [hK.out]; exact hx
        rw [List.getElem?_eq_getElem (by rw [hK.out, hn.out]; exact hk)] at h3
        injection h3 with h3
        rw [← h3]; exact h1
      rw [kept_take_succ hu hx, hpx, kept_none HVL.out K (fun j y hj hy => by
        have h1 := List.not_of_lt_findIdx (xs := l) (p := p) (i := j) (by rw [hK.out]; exact hj)
        rw [List.getElem?_eq_getElem (by rw [hn.out]; omega)] at hy
        injection hy with hy
        rw [hy] at h1
        simpa using h1) (by rw [hn.out]; exact hKn)]
      simp)
    have HIX := hid (idxT_calls p HO.out HVL.out HP.out HLEN.out)
    clear hcell hA
    go_enter Tryd.func30, Tryd.ntmps30
    go_wp2_with (first
      | (go_at_call 40; refine HIX.out.mono ?_; rintro e w1 ⟨he, q, hw1⟩; rw [hK.out, hn.out, hif.out] at he; subst he
         have hon1 : Only gv w w1 := hw1 ▸ (Only.refl gv w).drewN q
         have hb1 : Blk w1 gv 59 cs0 := hw1 ▸ hb0
         clear hw1)
      | fail)
    have hrow0 : RowSt w w1 gv c n K (K + 1) p vs l := by
      refine ⟨hon1, ⟨cs0, hb1, hcl0, fun a ha => ?_, fun a h1 h2 => hcv0 a h2⟩, ?_⟩
      · rw [hK0.out, hcv0 a (by omega), List.getElem?_take, if_pos ha]
      · rw [hK0.out, List.length_take, HVL.out, hn.out]; omega
    clear hne1
    go_loopg [5, 6] (n + 1) (fun kq v5 v6 wr => ∃ i j : Nat, v5 = .int .i64 i ∧ v6 = .int .i64 j ∧ i < j ∧ j ≤ n ∧ Hd (kq + j = n + K + 2) ∧ Hd (RowSt w wr gv c n i j p vs l))
    case atStart => exact ⟨K, K + 1, rfl, by go_num, by omega, by omega, hid (by omega), hid hrow0⟩
    case round =>
      clear hrow0
      obtain ⟨i, j, rfl, rfl, hij, hjn, hq, hst⟩ := hrel
      obtain ⟨cs, hb, hcl, hci, hcj⟩ := hst.out.row
      by_cases hlt : j < n
      · obtain ⟨u, hu⟩ : ∃ u, Hd (vs[j]? = some u) := ⟨_, hid (List.getElem?_eq_getElem (by rw [HVL.out, hn.out]; exact hlt))⟩
        obtain ⟨x, hx⟩ : ∃ x, Hd (l[j]? = some x) := ⟨_, hid (List.getElem?_eq_getElem (by rw [hn.out]; exact hlt))⟩
        have cj : wr.cell? ⟨gv, j, none⟩ = some u := by rw [hb.cell, hcj j (Nat.le_refl _) hlt]; exact hu.out
        have hlt2 : (j : Int) < n := by omega
        have hi2 : (i : Int) < n := by omega
        have HCI := hid hci
        have HCJ := hid hcj
        have HS := hid (HP.out wr (fun k hk => hst.out.only.block k (fun he => hk (by rw [he]; rfl))) j x u hx.out hu.out)
        clear hci hcj
        by_cases hpx : p x = true
        · have HPX := hid hpx
          clear hpx
          go_wp2_with (first
            | (go_at_call 31; refine HS.out.mono ?_; rintro e w2 ⟨he2, q2, hw2⟩; rw [HPX.out] at he2; subst he2)
            | fail)
          go_roundg (gk - 1)
          case measure => have := hq.out; omega
          case rel =>
            refine ⟨i, j + 1, rfl, by go_num, by omega, by omega, hid (by have := hq.out; omega), hid ⟨?_, ⟨cs, ?_, hcl, fun a ha => ?_, fun a h1 h2 => HCJ.out a (by omega) h2⟩, ?_⟩⟩
            · exact hst.out.only.drewN q2
            · exact hb
            · rw [kept_take_succ hu.out hx.out, HPX.out]; simpa using HCI.out a ha
            · rw [kept_take_succ hu.out hx.out, HPX.out]; simpa using hst.out.len
        · have HPX := hid (by simpa using hpx : p x = false)
          clear hpx
          obtain ⟨o1, ho1⟩ : ∃ o1, Hd (cs[i]? = some o1) := ⟨_, hid (List.getElem?_eq_getElem (by omega))⟩
          obtain ⟨gu, hgu⟩ : ∃ gu, u = .pointer gu := HU.out j u hu.out
          subst hgu
          go_wp2_with (first
            | (go_at_call 31; refine HS.out.mono ?_; rintro e w2 ⟨he2, q2, hw2⟩; rw [HPX.out] at he2; subst he2
               have ci2 : w2.cell? ⟨gv, i, none⟩ = some o1 := by (rw [hw2]; exact (hb.cell i).trans ho1.out)
               have fi2 : w2.frozen? ⟨gv, i, none⟩ = false := by (rw [hw2]; exact hb.frozen i)
               have hb2 : Blk w2 gv 59 cs := hw2 ▸ hb
               have hon2 : Only gv w w2 := hw2 ▸ hst.out.only.drewN q2
               clear hw2)
            | fail)
          go_roundg (gk - 1)
          case measure => have := hq.out; omega
          case rel =>
            refine ⟨i + 1, j + 1, by go_num, by go_num, by omega, by omega, hid (by have := hq.out; omega), hid ⟨?_, ⟨cs.set i (.pointer gu), ?_, by rw [List.length_set]; exact hcl, fun a ha => ?_, fun a h1 h2 => ?_⟩, ?_⟩⟩
            · exact hon2.setCell i _
            · exact hb2.set i _
            · rw [kept_take_succ hu.out hx.out, HPX.out, List.getElem?_append, hst.out.len]
              by_cases hai : a < i
              · rw [if_pos hai, List.getElem?_set_ne (by omega)]; exact HCI.out a hai
              · have : a = i := by omega
                subst this
                rw [if_neg (by omega), List.getElem?_set_self (by omega)]; simp
            · rw [List.getElem?_set_ne (by omega)]; exact HCJ.out a (by omega) h2
            · rw [kept_take_succ hu.out hx.out, HPX.out]; simp [hst.out.len]
      · have hjn2 : j = n := by omega
        subst hjn2
        have hlt2 : ¬ (j : Int) < j := by omega
        have hi2 : (i : Int) ≤ j := by omega
        have hci2 : ¬ c = i := by omega
        have hcn : Hd (∀ a, a < i → cs[a]? = (keptL p vs l)[a]?) := hid (fun a ha => by
          have := hci a ha
          rw [← hn.out, List.take_length] at this
          rw [← HVL.out, List.take_length] at this
          exact this)
        have hkl : Hd ((keptL p vs l).length = i) := hid (by
          have := hst.out.len
          rw [← hn.out, List.take_length] at this
          rw [← HVL.out, List.take_length] at this
          exact this)
        go_wp2_with (first
          | (refine clear_step rfl (.tmp 38) 56 59 rfl undFn (.pointer none) zeroPI rfl rfl gv i (j - i) (c - i) rfl (by omega) 59 cs hb (by omega) ?_; intro w3 cs3 hb3 hl3 hs3 hon3)
          | fail)
        go_ret
        refine ⟨_, rfl, ⟨by simp, .inr ⟨gv, c, cs3.toArray, by rw [hkl.out]; rfl, Nat.zero_le _, hb3, by rw [hkl.out]; omega, ?_, by simp; omega, ?_⟩⟩, fun k hk => hk, ?_⟩
        · rcases HO.out.2 with ⟨hno, _⟩ | ⟨g, cap, cur, hv2, _, hh, hn2, hm2, hs2, ht2⟩
          · cases hno
          · injection hv2 with h1 h2 h3
            omega
        · apply List.ext_getElem?
          intro a
          rw [hkl.out, Nat.mul_one, List.getElem?_take]
          by_cases ha : a < i
          · rw [if_pos ha, ← hcn.out a ha, ← hs3 a ha]
          · rw [if_neg ha, List.getElem?_eq_none (by rw [hkl.out]; omega)]
        · have hon := hst.out.only.trans hon3
          exact ⟨hon.os, hon.tape, hon.output, by rw [hon.size]; exact Nat.le_refl _, fun k _ hk => hon.block k (fun he => hk (by rw [he]; rfl))⟩
  · have hif := hid (show (if K < n then (K : Int) else -1) = -1 by rw [if_neg hk])
    have hall : Hd (keptL p vs l = vs) := hid (kept_all HVL.out (by rw [hK.out, hn.out]; exact hk))
    rw [hall.out]
    have HIX := hid (idxT_calls p HO.out HVL.out HP.out HLEN.out)
    clear hcell hA
    go_enter Tryd.func30, Tryd.ntmps30
    go_wp2_with (first
      | (go_at_call 40; refine HIX.out.mono ?_; rintro e w1 ⟨he, q, hw1⟩; rw [hK.out, hn.out, hif.out] at he; subst he
         have ho1 : OwnV w1 0 59 (.slice A n c) vs := hw1 ▸ HO.out
         have hu1 : Upd (fun k => (Value.slice A n c).ownBlock = some k) w w1 := hw1 ▸ (Upd.refl _ w).drewN q
         clear hw1)
      | fail)
    go_ret
    exact ⟨_, rfl, ho1, fun k hk => hk, hu1⟩
end Go.Proofs.YtinpilfnnmkpoaaDoor
/- The store's Tick. -/
namespace Go.Proofs.YtinpilfnnmkpoaaDoor
open Go.RowKit Go.Cour
def aged (x : Item) : Item := { x with age := x.age + 1 }
def agedTo (l : List Item) (i : Nat) : List Item := (l.take i).map aged ++ l.drop i
def old (life : Int) (x : Item) : Bool := decide (life ≤ x.age)
def tickL (st : StoreD) : List Item := (st.l.map aged).filter fun x => !old st.life x
theorem agedTo_length (l : List Item) (i : Nat) : (agedTo l i).length = l.length := by simp [agedTo]; omega
theorem agedTo_zero (l : List Item) : agedTo l 0 = l := by simp [agedTo]
theorem agedTo_all (l : List Item) : agedTo l l.length = l.map aged := by simp [agedTo]
theorem agedTo_get {l : List Item} {i : Nat} (h : i < l.length) : (agedTo l i)[i]? = l[i]? := by
  unfold agedTo
  rw [List.getElem?_append_right (by simp; omega)]
  simp
  congr 1; omega
theorem agedTo_set {l : List Item} {i : Nat} {x : Item} (h : l[i]? = some x) : (agedTo l i).set i (aged x) = agedTo l (i + 1) := by
  have hl := (List.getElem?_eq_some_iff.1 h).1
  unfold agedTo
  have h1 : ((l.take i).map aged).length = i := by simp; omega
  rw [List.set_append_right _ _ (by omega), h1, Nat.sub_self, List.take_add_one, h]
  have h2 : l.drop i = x :: l.drop (i + 1) := by
    rw [List.drop_eq_getElem_cons hl]
    rw [List.getElem?_eq_getElem hl] at h
    injection h with h
    rw [h]
  rw [h2]
  simp
set_option maxHeartbeats 1000000 in
set_option maxRecDepth 100000 in
theorem tick1_calls {w : World} {F : Nat → Prop} {v : Value} {x : Item} {g gc gs : Nat} {vb : Value} {life : Int} (h : ItemAt w F v x g vb) (hc : w.cell? ⟨gc, 0, none⟩ = some (.pointer (some ⟨gs, 0, none⟩))) (hl : w.cell? ⟨gs, 1, none⟩ = some (.int .i64 life)) :
    Calls Tryd.prog 31 #[.pointer (some ⟨g, 0, none⟩), .pointer (some ⟨gc, 0, none⟩)] w fun e w' => e = .returned (.bool (old life x)) ∧ ∃ q, w' = w.drewN q := by
  have c35 : w.cell? ⟨g, 35, none⟩ = some (.int .i64 x.age) := by rw [h.blk.cell]; exact itemC_at x vb h.idl 3
  go_enter Tryd.func31, Tryd.ntmps31
  go_wp2_with fail
  go_quiet (fail)
  go_wp2_with fail
  go_ret
  exact ⟨rfl, _, rfl⟩
/-- The store behind some of its blobs' going. -/
theorem StoreAt.drop {w w' : World} {F F2 : Nat → Prop} {gs : Nat} {st : StoreD} {v v' : Value} {vs : List Value} (p : Item → Bool) (h : StoreAt w F gs st v vs F2)
    (hv : OwnV w' 0 59 v' (keptL p vs st.l)) (hv' : ∀ k, v'.ownBlock = some k → v.ownBlock = some k) (hs : Blk w' gs 58 [.int .i64 st.quota, .int .i64 st.life, v'])
    (hk : ∀ k, F2 k → w'.heap[k]? = w.heap[k]?) : ∃ F' vs' F2', StoreAt w' F' gs { st with l := st.l.filter fun x => !p x } v' vs' F2' ∧ (∀ k, F' k → F k) := by
  obtain ⟨F3, h3, hsub⟩ := (h.star.kept hk).part (fun x => !p x)
  refine ⟨fun k => k = gs ∨ v'.ownBlock = some k ∨ F3 k, _, F3, ⟨hs, hv, h3, ⟨fun hn => h.apart.1 (hsub _ hn), fun k hk1 hk2 => h.apart.2 k (hv' k hk1) (hsub k hk2)⟩, fun k => Iff.rfl⟩, fun k hk1 => ?_⟩
  rcases hk1 with h1 | h1 | h1
  · exact (h.foot k).2 (.inl h1)
  · exact (h.foot k).2 (.inr (.inl (hv' k h1)))
  · exact (h.foot k).2 (.inr (.inr (hsub k h1)))
theorem StoreAt.cellv {w : World} {F F2 : Nat → Prop} {gs n c : Nat} {A : Option Addr} {st : StoreD} {vs : List Value} (h : StoreAt w F gs st (.slice A n c) vs F2) (i : Nat) (hi : i < vs.length) : ∃ gv, A = some ⟨gv, 0, none⟩ ∧ w.cell? ⟨gv, i, none⟩ = vs[i]? := by
  obtain ⟨A', c', hv, _, _, hcell⟩ := h.own.parts
  injection hv with h1 h2 h3
  subst h1
  exact hcell i hi
theorem star_ptr {w : World} {F : Nat → Prop} {vs : List Value} {l : List Item} (h : Star itemH w F vs l) (i : Nat) (u : Value) (hu : vs[i]? = some u) : ∃ a, u = Value.pointer a := by
  have hl := (List.getElem?_eq_some_iff.1 hu).1
  obtain ⟨v, x, F1, F2, hv, _, ⟨g, vb, hat⟩, _⟩ := h.focus i (by rw [← h.length]; exact hl)
  rw [hu] at hv
  injection hv with hv
  exact ⟨_, hv.trans hat.hv⟩
set_option maxHeartbeats 1000000 in
set_option maxRecDepth 100000 in
theorem btick_calls {w : World} {F F2 : Nat → Prop} {gs : Nat} {st : StoreD} {v : Value} {vs : List Value} (h : StoreAt w F gs st v vs F2) (hlen : st.l.length ≤ 1000000) (hage : ∀ x ∈ st.l, 0 ≤ x.age ∧ x.age < 1000000) :
    Calls Tryd.prog 15 #[.pointer (some ⟨gs, 0, none⟩)] w fun e w' => e = .returned (.int .i64 ((st.l.length : Int) - (tickL st).length)) ∧ Becomes w F gs w' { st with l := tickL st } := by
  have H := hid h
  have HAGE := hid hage
  obtain ⟨A, c, hv, hc, hA, hcell⟩ := h.own.parts
  have hsl := h.star.length
  rw [hsl] at hv hc hcell
  obtain ⟨n, hn⟩ : ∃ n, Hd (st.l.length = n) := ⟨_, ⟨rfl⟩⟩
  rw [hn.out] at hv hc hcell hlen hsl
  subst hv
  have HC := hid hcell
  have c2 : w.cell? ⟨gs, 2, none⟩ = some (.slice A n c) := by rw [h.blk.cell]; rfl
  have hgs := h.blk.lt
  rw [hn.out]
  clear hcell h hage
  go_enter Tryd.func15, Tryd.ntmps15
  go_wp2_with fail
  obtain ⟨gc, hgc⟩ : ∃ gc, gc = w.heap.size := ⟨_, rfl⟩
  obtain ⟨w1, hw1⟩ : ∃ w1, w1 = w.alloc (.cells #[.pointer (some ⟨gs, 0, none⟩)] 24) := ⟨_, rfl⟩
  rw [← hgc, ← hw1]
  have hB1 : Below w.heap.size w w1 := hw1 ▸ (Below.refl _ _).alloc (Nat.le_refl _) _
  have hbc1 : Blk w1 gc 24 [.pointer (some ⟨gs, 0, none⟩)] := hgc ▸ hw1 ▸ Blk.new w _ _
  have hst1 := H.out.below hB1
  have hgcF : Hd (¬ F gc ∧ gs < gc) := hid ⟨fun hf => by have := H.out.lt _ hf; omega, by omega⟩
  have hsB1 := hid hB1
  clear hw1 hgc c2
  go_loopg [16] (n + 1) (fun kq v16 wr => ∃ i : Nat, i ≤ n ∧ v16 = .int .i64 i ∧ Hd (kq + i = n + 1) ∧ (∃ Fr F2r, Hd (StoreAt wr Fr gs { st with l := agedTo st.l i } (.slice A n c) vs F2r ∧ ∀ k, Fr k → F k)) ∧ Hd (Upd F w1 wr) ∧ Hd (Blk wr gc 24 [.pointer (some ⟨gs, 0, none⟩)]))
  case atStart => exact ⟨0, by omega, rfl, hid (by omega), ⟨F, F2, hid ⟨by rw [agedTo_zero]; exact hst1, fun _ h => h⟩⟩, hid (Upd.refl _ _), hid hbc1⟩
  case round =>
    clear hst1 hbc1
    obtain ⟨i, hi, rfl, hq, ⟨Fr, F2r, hst⟩, hup, hbc⟩ := hrel
    by_cases hlt : i < n
    · obtain ⟨x, g, vb, hx, hu, hxl, hb, ho, hFg, hFb, hgs2, hvg, hvb, hback⟩ := hst.out.1.focus2 i (by rw [agedTo_length, hn.out]; exact hlt)
      rw [agedTo_get (by rw [hn.out]; exact hlt)] at hx
      obtain ⟨gv, hA2, hce⟩ := hst.out.1.cellv i (by rw [hsl]; exact hlt)
      subst hA2
      rw [hu] at hce
      have c35 : wr.cell? ⟨g, 35, none⟩ = some (.int .i64 x.age) := by rw [hb.cell]; exact itemC_at x vb hxl 3
      have f35 := hb.frozen 35
      have hag := HAGE.out x (List.mem_of_getElem? hx)
      have ha : IntKind.i64.wrap (x.age + 1) = x.age + 1 := IntWalk.i64_in _ (by omega)
      have hlt2 : (i : Int) < n := by omega
      have HX := hid hx
      have HB := hid hb
      have HO := hid ho
      have HBK := hid hback
      have HGS := hid hgs2
      have HFG := hid hFg
      have HFB := hid hFb
      clear hx hb ho hback hgs2 hvg hvb hu hFg hFb
      go_wp2_with fail
      go_roundg (gk - 1)
      case measure => have := hq.out; omega
      case rel =>
        obtain ⟨F', F2', hst', _, hsub'⟩ := HBK.out (wr.setCell ⟨g, 35, none⟩ (.int .i64 (x.age + 1))) (aged x) vb (by have := HB.out.set 35 (.int .i64 (x.age + 1)); rw [itemC_age x vb hxl] at this; exact this) hxl (HO.out.setOther (by simp; exact fun he => blk_own_ne HB.out HO.out tItem_ne he.symm) _) (fun k hk => .inl hk) (fun k hk hkg hkb => Below.heap_setCell _ _ _ _ hkg)
        have hFgg := hst.out.2 g HFG.out
        refine ⟨i + 1, by omega, by go_num, hid (by have := hq.out; omega), ⟨F', F2', hid ⟨by rw [← agedTo_set HX.out]; exact hst', fun k hk => ?_⟩⟩, hid ?_, hid (hbc.out.setOther (by simp; intro he; exact hgcF.out.1 (he ▸ hFgg)) _)⟩
        · rcases hsub' k hk with h1 | h1
          · exact hst.out.2 k h1
          · exact hst.out.2 k (HFB.out k h1)
        · exact hup.out.trans (Upd.setCell _ _ _) (fun j hj he => by subst he; exact hFgg)
    · have hin : i = n := by omega
      subst hin
      have hlt2 : ¬ (i : Int) < i := by omega
      obtain ⟨L, hL⟩ : ∃ L, Hd (st.l.map aged = L) := ⟨_, ⟨rfl⟩⟩
      have hLl : Hd (L.length = i) := hid (by rw [← hL.out, List.length_map]; exact hn.out)
      have hst2 : StoreAt wr Fr gs { st with l := L } (.slice A i c) vs F2r := by
        have h1 := hst.out.1
        have e : agedTo st.l i = L := by rw [← hn.out, agedTo_all, hL.out]
        rw [e] at h1; exact h1
      have hsays : SaysT wr.drew gc (.slice A i c) vs L (old st.life) := fun w2 hk j x u hx hu => by
        obtain ⟨u', x', F1, F3, hu', hx', hat, _, hF, _⟩ := hst2.star.focus j (List.getElem?_eq_some_iff.1 hx).1
        rw [hu] at hu'; injection hu' with hu'; subst hu'
        have hx'' : some x = some x' := hx.symm.trans hx'
        injection hx'' with hx''; subst hx''
        obtain ⟨g, vb, hat3⟩ := itemH.kept hat (w' := w2) (fun k hk1 => hk k (fun he => hst2.apart.2 k he ((hF k).2 (.inl hk1))))
        rw [hat3.hv]
        have hb1 : Blk w2 gc 24 [.pointer (some ⟨gs, 0, none⟩)] := (hk gc (fun he => hst2.own.ne_blk hbc.out (by decide) he.symm)).trans hbc.out
        have hb2 : Blk w2 gs 58 _ := (hk gs (fun he => hst2.own.ne_blk hst2.blk tStore_ne he.symm)).trans hst2.blk
        exact tick1_calls hat3 (by rw [hb1.cell]; rfl) (by rw [hb2.cell]; rfl)
      have hdel := hid (delT_calls (old st.life) hst2.drew.own (by rw [hsl]; exact hLl.out.symm) hsays (fun j u hu => star_ptr hst2.star j u hu) (by rw [hLl.out]; exact hlen))
      have c2 : wr.cell? ⟨gs, 2, none⟩ = some (.slice A i c) := by rw [hst2.blk.cell]; rfl
      have hbc2 := hbc.out
      clear hsays
      go_wp2_with fail
      have hT := (⟨hbc2.drew, c2⟩ : Blk wr.drew gc 24 [.pointer (some ⟨gs, 0, none⟩)] ∧ wr.drew.cell? ⟨gs, 2, none⟩ = some (.slice A i c))
      refine wp_region_T (T := fun w' => Blk w' gc 24 [.pointer (some ⟨gs, 0, none⟩)] ∧ w'.cell? ⟨gs, 2, none⟩ = some (.slice A i c)) (by kernel_rfl) (by kernel_rfl) hT ?_
      show wpT _ _ _ _ [0, 1, 2, 3, 4, 5, 6, 7, 8, 9] _ _
      apply wpT_read (i := 0) rfl hT rfl -- Op.load 24 t1
      · intro w' hT'
        simp only [List.getElem_toArray, List.getElem_cons_zero, List.getElem_cons_succ]
        have cg' := hT'.1.cell 0
        have c2' := hT'.2
        go_wp2_with fail
        first | exact ⟨rfl, rfl, rfl⟩ | rfl
      apply wpT_read (i := 1) rfl hT rfl -- Op.load 24 t1
      · intro w' hT'
        simp only [List.getElem_toArray, List.getElem_cons_zero, List.getElem_cons_succ]
        have cg' := hT'.1.cell 0
        have c2' := hT'.2
        go_wp2_with fail
        first | exact ⟨rfl, rfl, rfl⟩ | rfl
      apply wpT_read (i := 2) rfl hT rfl -- Op.nilCheck t29
      · intro w' hT'
        simp only [List.getElem_toArray, List.getElem_cons_zero, List.getElem_cons_succ]
        go_wp2_with fail
        first | exact ⟨rfl, rfl, rfl⟩ | rfl
      apply wpT_read (i := 3) rfl hT rfl -- Op.fieldAddr 58 t30 2
      · intro w' hT'
        simp only [List.getElem_toArray, List.getElem_cons_zero, List.getElem_cons_succ]
        go_wp2_with fail
        first | exact ⟨rfl, rfl, rfl⟩ | rfl
      apply wpT_read (i := 4) rfl hT rfl -- Op.load 56 t31
      · intro w' hT'
        simp only [List.getElem_toArray, List.getElem_cons_zero, List.getElem_cons_succ]
        have cg' := hT'.1.cell 0
        have c2' := hT'.2
        go_wp2_with fail
        first | exact ⟨rfl, rfl, rfl⟩ | rfl
      apply wpT_read (i := 5) rfl hT rfl -- Op.makeFunc (Fn.func 31) #[] #[t1]
      · intro w' hT'
        simp only [List.getElem_toArray, List.getElem_cons_zero, List.getElem_cons_succ]
        go_wp2_with fail
        first | exact ⟨rfl, rfl, rfl⟩ | rfl
      refine wpT_act (i := 6) rfl rfl ?_ -- Op.call { value (Operand.func 30), args := #[t32, t33], argTypes := 
      simp only [List.getElem_toArray, List.getElem_cons_zero, List.getElem_cons_succ]
      go_wp2_with (first
        | (go_at_call 30; refine hdel.out.mono ?_; rintro e w2 ⟨v', rfl, hov, hvb, hu2⟩)
        | fail)
      have hvb := hid hvb
      have hu2 := hid hu2
      have hngc := hst2.own.ne_blk hbc2 (by decide)
      have hngs := hst2.own.ne_blk hst2.blk tStore_ne
      have hT1 := hT.1.upd hu2.out (fun he => hngc he.symm)
      have hs2 := hst2.drew.blk.upd hu2.out (fun he => hngs he.symm)
      have hT := (⟨hT1, by rw [hs2.cell]; rfl⟩ : Blk w2 gc 24 [.pointer (some ⟨gs, 0, none⟩)] ∧ w2.cell? ⟨gs, 2, none⟩ = some (.slice A i c))
      have c22 := hT.2
      have f22 := hs2.frozen 2
      obtain ⟨A', c', hv', _, _, _⟩ := hov.parts
      obtain ⟨m', hm'⟩ : ∃ m', Hd ((keptL (old st.life) vs L).length = m') := ⟨_, ⟨rfl⟩⟩
      rw [hm'.out] at hv'
      subst hv'
      first | refine ⟨rfl, rfl, hT, ?_⟩ | (show _ ∧ _; refine ⟨hT, ?_⟩) | skip
      apply wpT_read (i := 7) rfl hT rfl -- Op.nilCheck t28
      · intro w' hT'
        simp only [List.getElem_toArray, List.getElem_cons_zero, List.getElem_cons_succ]
        go_wp2_with fail
        first | exact ⟨rfl, rfl, rfl⟩ | rfl
      apply wpT_read (i := 8) rfl hT rfl -- Op.fieldAddr 58 t35 2
      · intro w' hT'
        simp only [List.getElem_toArray, List.getElem_cons_zero, List.getElem_cons_succ]
        go_wp2_with fail
        first | exact ⟨rfl, rfl, rfl⟩ | rfl
      refine wpT_tot (fun w' => True) (i := 9) rfl rfl (by kernel_rfl) ?_ -- Op.store 56 t36 t34
      simp only [List.getElem_toArray, List.getElem_cons_zero, List.getElem_cons_succ]
      go_wp2_with fail
      have hT : True := trivial
      first | refine ⟨rfl, rfl, hT, ?_⟩ | (show _ ∧ _; refine ⟨hT, ?_⟩) | skip
      refine wpT_end ?_
      try dsimp only

      have hw2 : Upd Fr wr w2 := ((Upd.refl Fr wr).drew).trans hu2.out (fun j _ hj => (hst2.foot j).2 (.inr (.inl hj)))
      have hbs3 := hs2.set 2 (.slice A' m' c')
      have hbc3 := hT1.setOther (a := ⟨gs, 2, none⟩) (by simp; have := hgcF.out.2; omega) (.slice A' m' c')
      obtain ⟨F', vs', F2', hst4, hsub4⟩ := hst2.drop (w' := w2.setCell ⟨gs, 2, none⟩ (.slice A' m' c')) (v' := .slice A' m' c') (old st.life) (hov.kept' fun j hj => Below.heap_setCell _ _ _ _ (fun he => hov.ne_blk hs2 tStore_ne (by rw [hj, he]))) hvb.out (by have := hbs3; exact this) (fun k hk => by
        have hkg : k ≠ gs := fun he => hst2.apart.1 (he ▸ hk)
        exact (Below.heap_setCell _ _ _ _ hkg).trans (hu2.out.block k (hst2.star.lt k hk) (fun he => hst2.apart.2 k he hk)))
      have hu4 : Upd Fr wr (w2.setCell ⟨gs, 2, none⟩ (.slice A' m' c')) := hw2.trans (Upd.setCell _ _ _) (fun j _ he => (hst2.foot j).2 (.inl he))
      obtain ⟨w3, hw3⟩ : ∃ w3, w3 = w2.setCell ⟨gs, 2, none⟩ (.slice A' m' c') := ⟨_, rfl⟩
      rw [← hw3] at hbs3 hbc3 hst4 hu4 ⊢
      have c23 : w3.cell? ⟨gs, 2, none⟩ = some (.slice A' m' c') := by rw [hbs3.cell]; rfl
      have cg3 : w3.cell? ⟨gc, 0, none⟩ = some (.pointer (some ⟨gs, 0, none⟩)) := by rw [hbc3.cell]; rfl
      have hml : Hd ((m' : Int) = (tickL st).length) := hid (by
        rw [tickL, hL.out]
        have h1 := hst4.star.length
        rw [← hm'.out]
        have h2 : (keptL (old st.life) vs L).length = (L.filter fun x => !old st.life x).length := (Star.part (H := itemH) (fun x => !old st.life x) hst2.star).choose_spec.1.length
        rw [h2])
      have hm16 : m' ≤ i := by
        have h1 := hml.out
        have h2 : (tickL st).length ≤ i := by
          rw [tickL]; refine Nat.le_trans (List.length_filter_le _ _) ?_; rw [List.length_map, hn.out]; exact Nat.le_refl _
        omega
      have ha : IntKind.i64.wrap ((i : Int) - m') = (i : Int) - m' := IntWalk.i64_in _ (by omega)
      clear hw3 hu2 hov hT1 hs2 hbs3 hbc3 hT hw2
      go_wp2_with fail
      go_ret
      have h1 : tickL st = L.filter fun x => !old st.life x := by rw [tickL, hL.out]
      have h5 : StoreAt w3 F' gs { st with l := tickL st } (.slice A' m' c') vs' F2' := by rw [h1]; exact hst4
      exact ⟨by rw [← hml.out]; rfl, F', _, vs', F2', h5, fun k hk => .inl (hst.out.2 k (hsub4 k hk)), ((Upd.of_below (hsB1.out) F).trans hup.out (fun j _ hj => hj)).trans hu4 (fun j _ hj => hst.out.2 j hj)⟩
end Go.Proofs.YtinpilfnnmkpoaaDoor
/- The store's All. -/
namespace Go.Cour
open Go.RowKit
/-- The slice value v, of rows of s cells each, is one's own. -/
def OwnA (w : World) (e : TypeId) (s : Nat) (v : Value) (rows : List (List Value)) : Prop := w.ownsRow 0 e s v rows.length rows.flatten ∧ ∀ r ∈ rows, r.length = s
theorem OwnA.nil (w : World) (e : TypeId) (s : Nat) : OwnA w e s (.slice none 0 0) [] := ⟨World.ownsRow_nil w 0 e s, fun _ h => by cases h⟩
theorem OwnA.below {w w' : World} {e : TypeId} {s : Nat} {v : Value} {rows : List (List Value)} (h : OwnA w e s v rows) (hb : Below w.heap.size w w') : OwnA w' e s v rows := by
  refine ⟨⟨h.1.1, ?_⟩, h.2⟩
  rcases h.1.2 with h2 | ⟨g, cap, cur, rfl, hg, hh, r⟩
  · exact .inl h2
  · exact .inr ⟨g, cap, cur, rfl, hg, (hb.block g (Array.getElem?_eq_some_iff.1 hh).1).trans hh, r⟩
theorem OwnA.kept {w w' : World} {e : TypeId} {s : Nat} {v : Value} {rows : List (List Value)} (h : OwnA w e s v rows) (hk : ∀ j, v.ownBlock = some j → w'.heap[j]? = w.heap[j]?) : OwnA w' e s v rows := by
  refine ⟨⟨h.1.1, ?_⟩, h.2⟩
  rcases h.1.2 with h2 | ⟨g, cap, cur, rfl, hg, hh, r⟩
  · exact .inl h2
  · exact .inr ⟨g, cap, cur, rfl, hg, (hk g rfl).trans hh, r⟩
theorem OwnA.lt_size {w : World} {e : TypeId} {s : Nat} {v : Value} {rows : List (List Value)} (h : OwnA w e s v rows) (j : Nat) (hj : v.ownBlock = some j) : j < w.heap.size := by
  rcases h.1.2 with ⟨rfl, _⟩ | ⟨g, cap, cur, rfl, hg, hh, r⟩
  · simp [Value.ownBlock] at hj
  · have : g = j := by simpa [Value.ownBlock] using hj
    subst this
    exact (Array.getElem?_eq_some_iff.1 hh).1
theorem flatten_get {s : Nat} : ∀ {rows : List (List Value)}, (∀ r ∈ rows, r.length = s) → ∀ (i j : Nat) (r : List Value), rows[i]? = some r → j < s → rows.flatten[i * s + j]? = r[j]?
  | [], _, i, j, r, h, _ => by simp at h
  | r0 :: rows, hl, 0, j, r, h, hj => by
    simp only [List.getElem?_cons_zero, Option.some.injEq] at h
    subst h
    have := hl r0 (by simp)
    rw [List.flatten_cons, Nat.zero_mul, Nat.zero_add, List.getElem?_append_left (by omega)]
  | r0 :: rows, hl, i + 1, j, r, h, hj => by
    have h0 := hl r0 (by simp)
    have ih := flatten_get (s := s) (rows := rows) (fun r hr => hl r (by simp [hr])) i j r (by simpa using h) hj
    rw [List.flatten_cons, Nat.succ_mul, List.getElem?_append_right (by omega), ← ih]
    congr 1; omega
/-- Where its rows lie. -/
theorem OwnA.parts {w : World} {e : TypeId} {s : Nat} {v : Value} {rows : List (List Value)} (h : OwnA w e s v rows) : ∃ A c, v = .slice A rows.length c ∧ rows.length ≤ c ∧
    ∀ i r, rows[i]? = some r → ∃ g, A = some ⟨g, 0, none⟩ ∧ ∀ j u, r[j]? = some u → w.cell? ⟨g, i * s + j, none⟩ = some u := by
  obtain ⟨⟨h1, h2⟩, h3⟩ := h
  rcases h2 with ⟨rfl, h2⟩ | ⟨g, cap, cur, rfl, hg, hh, hn, hm, hs, ht⟩
  · exact ⟨none, 0, by rw [h2], by omega, fun i r hr => by have := (List.getElem?_eq_some_iff.1 hr).1; omega⟩
  · refine ⟨_, cap, rfl, hn, fun i r hr => ⟨g, rfl, fun j u hu => ?_⟩⟩
    have hl := (List.getElem?_eq_some_iff.1 hr).1
    have hrs := h3 r (List.mem_of_getElem? hr)
    have hj : j < s := by have := (List.getElem?_eq_some_iff.1 hu).1; omega
    have hc : w.cell? ⟨g, i * s + j, none⟩ = cur[i * s + j]? := cell_of_row w g _ cur e (0, 0) hh
    have h4 := flatten_get h3 i j r hr hj
    rw [← ht, List.getElem?_take, if_pos (by
      have : (i + 1) * s ≤ rows.length * s := Nat.mul_le_mul_right _ hl
      rw [Nat.succ_mul] at this; omega)] at h4
    rw [hc, ← Array.getElem?_toList, h4, hu]
section
variable {P : Program} {w : World} {ops : Array Oper} {rest : List Oper} {o : Oper} {a : Act} {Q : Exit → Act → World → Prop}
/-- A slice literal of one value of s cells. -/
theorem literal_agg (hw : Region.wanted o (yielded ops a.tmps) = true) (t e : TypeId) (x : Operand) (ho : o.op = .buildSlice t 1 #[(0, x)]) (cs : List Value) (s : Nat) (hx : (a.eval x).cells = cs.toArray) (hl : cs.length = s)
    (ht : P.underlying t = some (.slice e)) (hsz : (P.info? e).map (·.size) = some s) (hz : ((P.info? e).bind (·.zero)).isSome = true) (hpos : 0 < s) (hsmall : s ≤ 2 ^ 24)
    (h : ∀ (g : Nat) (w' : World), w.heap.size = g → Blk w' g e cs → Below w.heap.size w w' → w'.heap.size = g + 1 → wpList P ops Q rest (a.put o.dst (.slice (some ⟨g, 0, none⟩) 1 1)) w') :
    wpList P ops Q (o :: rest) a w := by
  have h2 := h w.heap.size _ rfl (Blk.new w e cs) ((Below.refl _ _).alloc (Nat.le_refl _) _) (by simp)
  cases hie : P.info? e with
  | none => simp [hie] at hsz
  | some ie =>
    simp only [hie, Option.map_some, Option.some.injEq, Option.bind_some] at hsz hz
    obtain ⟨z, hzz⟩ := Option.isSome_iff_exists.1 hz
    refine wpList_step fun K hK => ?_
    rw [if_pos hw]
    refine wp_buildSlice t e 1 _ ho cs.toArray ie z ht hie hzz (by rw [hsz]; omega) (by rw [hsz]; omega) ?_ (hK _ _ h2)
    rw [hsz]
    obtain ⟨r, hr, hs2, hk⟩ := Great.fill_dense hpos [a.eval x] 0 ((Array.range (1 * s)).map (z.cells[· % z.cells.size]!)) (fun v hv => by rw [List.mem_singleton.1 hv, hx]; simpa using hl) (by simp)
    have he : (#[(0, x)].map fun (i, x) => (i, a.eval x)).toList = (([a.eval x] : List Value).zipIdx 0).map fun x => (x.2, x.1) := by simp
    rw [he, hr]
    congr 1
    apply Array.ext_getElem?
    intro k
    rw [hk k]
    by_cases hlt : k < s
    · rw [if_pos (by simp; omega)]
      have h1 : k / s = 0 := Nat.div_eq_of_lt hlt
      have h3 : k % s = k := Nat.mod_eq_of_lt hlt
      simp [h1, h3, hx]
    · rw [if_neg (by simp; omega)]
      simp [List.getElem?_eq_none (show cs.length ≤ k by omega)]
      omega
/-- One row more. -/
theorem app_agg (hw : Region.wanted o (yielded ops a.tmps) = true) (s x : Operand) (t : TypeId)
    (ho : o.op = .call { callee := .builtin .append, args := #[s, x], argTypes := #[t, t] })
    (e : TypeId) (n bytes : Nat) (ht : P.underlying t = some (.slice e)) (hi : (P.info? e).map (fun i => (i.zero.map (·.cells.size), i.size, i.bytes)) = some (some n, n, bytes)) (hn : 0 < n)
    (v : Value) (rows : List (List Value)) (hs : a.eval s = v) (hown : OwnA w e n v rows)
    (g : Nat) (r : List Value) (hx : a.eval x = .slice (some ⟨g, 0, none⟩) 1 1) (hg : Blk w g e r) (hl : r.length = n) (h1 : ∀ u ∈ r, u.oneCell' = true)
    (hbytes : (rows.length + 1) * bytes ≤ 140737488355328) (h63 : rows.length + 1 ≤ 140737488355328)
    (h : ∀ v' w', OwnA w' e n v' (rows ++ [r]) → w.grownBy w' v.ownBlock → Lies v v' w → wpList P ops Q rest (a.put o.dst v') w') :
    wpList P ops Q (o :: rest) a w := by
  cases hie : P.info? e with
  | none => simp [hie] at hi
  | some i =>
    cases hz : i.zero with
    | none => simp [hie, hz] at hi
    | some z =>
      simp [hie, hz] at hi
      refine app_row hw s x t ho e i z n bytes ht hie hz hi.2.1 hi.2.2 hi.1 hn v rows.length rows.flatten hs hown.1 ⟨g, 0, none⟩ 1 1 r hx (by omega) ?_ h1 (by unfold maxLen; omega) hbytes ?_
      · intro j u' hj
        rw [add_lit, Nat.zero_add, hg.cell]
        exact hj
      · intro v' w' h2 h3 h4
        refine h v' w' ⟨?_, fun q hq => ?_⟩ h3 h4
        · rw [List.length_append, List.flatten_append]
          simpa using h2
        · rcases List.mem_append.1 hq with hq | hq
          · exact hown.2 q hq
          · rw [List.mem_singleton.1 hq]; exact hl
end
end Go.Cour
namespace Go.Proofs.YtinpilfnnmkpoaaDoor
open Go.RowKit Go.Cour
theorem undLHash : Tryd.prog.underlying 37 = some (.slice 30) := by kernel_rfl
theorem zeroHash : ((Tryd.prog.info? 30).bind (·.zero)).isSome = true := by kernel_rfl
theorem infoHash3 : (Tryd.prog.info? 30).map (fun i => (i.zero.map (·.cells.size), i.size, i.bytes)) = some (some 32, 32, 32) := by kernel_rfl
def idRows (l : List Item) : List (List Value) := l.map fun x => ints .u8 x.id
theorem OwnV.ne_ownA {w : World} {e e' : TypeId} {s B : Nat} {v u : Value} {cs : List Value} {rows : List (List Value)} (h : OwnV w B e u cs) (h' : OwnA w e' s v rows) (hne : e ≠ e') (k : Nat) (hk : u.ownBlock = some k) : v.ownBlock ≠ some k := fun hv => by
  rcases h.2 with ⟨rfl, _⟩ | ⟨g, cap, cur, rfl, _, hh, r⟩
  · simp [Value.ownBlock] at hk
  · rcases h'.1.2 with ⟨rfl, _⟩ | ⟨g', cap', cur', rfl, _, hh', r'⟩
    · simp [Value.ownBlock] at hv
    · have e1 : g = k := by simpa [Value.ownBlock] using hk
      have e2 : g' = k := by simpa [Value.ownBlock] using hv
      subst e1 e2
      rw [hh] at hh'
      injection hh' with hh'
      injection hh' with _ hh'
      exact hne hh'
set_option maxHeartbeats 1000000 in
set_option maxRecDepth 100000 in
theorem ball_calls {w : World} {F F2 : Nat → Prop} {gs : Nat} {st : StoreD} {v : Value} {vs : List Value} (h : StoreAt w F gs st v vs F2) (hlen : st.l.length ≤ 1000000) :
    Calls Tryd.prog 17 #[.pointer (some ⟨gs, 0, none⟩)] w fun e w' => ∃ v', e = .returned v' ∧ OwnA w' 30 32 v' (idRows st.l) ∧ (∀ k, v'.ownBlock = some k → w.heap.size ≤ k) ∧ Below w.heap.size w w' := by
  have H := hid h
  obtain ⟨A, c, hv, hc, hA, hcell⟩ := h.own.parts
  have hsl := h.star.length
  rw [hsl] at hv hc hcell
  obtain ⟨n, hn⟩ : ∃ n, Hd (st.l.length = n) := ⟨_, ⟨rfl⟩⟩
  rw [hn.out] at hv hc hcell hlen hsl
  have HC := hid hcell
  have c2 : w.cell? ⟨gs, 2, none⟩ = some (.slice A n c) := by rw [h.blk.cell]; simp [hv]
  clear hcell h
  go_enter Tryd.func17, Tryd.ntmps17
  go_wp2_with fail
  go_loopg [3, 11] (n + 1) (fun kq v3 v11 wr => ∃ i : Nat, i ≤ n ∧ v11 = .int .i64 i ∧ Hd (kq + i = n + 1) ∧ Hd (OwnA wr 30 32 v3 (idRows (st.l.take i)) ∧ (∀ k, v3.ownBlock = some k → w.heap.size ≤ k) ∧ Below w.heap.size w wr))
  case atStart => exact ⟨0, by omega, rfl, hid (by omega), hid ⟨by simp [idRows]; exact OwnA.nil _ _ _, fun k hk => by simp [Value.ownBlock] at hk, Below.refl _ _⟩⟩
  case round =>
    obtain ⟨i, hi, rfl, hq, hst⟩ := hrel
    by_cases hlt : i < n
    · have hw := hst.out.2.2
      have H2 := hid (H.out.below hw)
      obtain ⟨x, g, vb, hx, hu, hxl, hb, ho, _⟩ := H2.out.focus i (by rw [hn.out]; exact hlt)
      obtain ⟨gv, hA2, hce⟩ := HC.out i hlt
      subst hA2
      rw [hu] at hce
      have hce2 : wr.cell? ⟨gv, i, none⟩ = some (.pointer (some ⟨g, 0, none⟩)) := (hw.cell (lt_of_cell hce)).trans hce
      have hlt2 : (i : Int) < n := by omega
      have HX := hid hx
      have hrow : Hd (idRows (st.l.take i) ++ [ints .u8 x.id] = idRows (st.l.take (i + 1))) := hid (by rw [List.take_add_one, hx]; simp [idRows])
      have hll : Hd ((idRows (st.l.take i)).length = i) := hid (by rw [idRows, List.length_map, List.length_take, hn.out]; omega)
      have hoa := hid hst.out.1
      have hob := hid hst.out.2.1
      have HW := hid hw
      obtain ⟨rows, hrows⟩ : ∃ rows, Hd (idRows (st.l.take i) = rows) := ⟨_, ⟨rfl⟩⟩
      rw [hrows.out] at hoa hrow hll
      clear hce ho hu hx hw hst
      go_wp2_with (first
        | (refine load_in rfl 30 _ rfl g 0 rfl (ints .u8 x.id) (fun j v hv => by rw [hb.cell, Nat.zero_add]; exact itemC_id _ _ j v hv) 32 5 arrHash (by simp [ints, hxl]) infoHash ?_)
        | (refine literal_agg rfl 37 30 _ rfl (ints .u8 x.id) 32 rfl (by simp [hxl]) undLHash infoHash zeroHash (by omega) (by omega) ?_; intro g5 w5 hg5 hb5 hB5 hs5)
        | (at_builtin; refine app_agg rfl (.tmp 15) (.tmp 20) 37 rfl 30 32 32 undLHash infoHash3 (by omega) _ rows rfl (hoa.out.below hB5) g5 (ints .u8 x.id) rfl hb5 (by simp [hxl]) (fun u hu => by obtain ⟨y, _, rfl⟩ := List.mem_map.1 hu; rfl) (by rw [hll.out]; omega) (by rw [hll.out]; omega) ?_; intro v6 w6 hv6 hg6 hl6; rw [hrow.out] at hv6)
        | fail)
      go_roundg (gk - 1)
      case measure => have := hq.out; omega
      case rel =>
        have hB5' := below_then HW.out HW.out.size hB5
        refine ⟨i + 1, by omega, by go_num, hid (by have := hq.out; omega), hid ⟨hv6, fun k hk => ?_, hB5'.grown hg6 hB5'.size (fun j hj => hob.out j hj)⟩⟩
        rcases hl6 with h1 | h1
        · exact hob.out k (h1 ▸ hk)
        · rw [h1] at hk; injection hk with hk; have := hB5'.size; omega
    · have hin : i = n := by omega
      subst hin
      have hlt2 : ¬ (i : Int) < i := by omega
      have hfin := hid hst.out
      rw [← hn.out, List.take_length] at hfin
      clear hst
      go_wp2_with fail
      go_ret
      exact ⟨_, rfl, hfin.out.1, hfin.out.2.1, hfin.out.2.2⟩
end Go.Proofs.YtinpilfnnmkpoaaDoor
/- Key, of a number: its 32 bytes, each told. -/
namespace Go.Proofs.YtinpilfnnmkpoaaDoor
open Go.RowKit Go.Cour
theorem info_key : (Tryd.prog.info? 31).map (·.size) = some 32 := by kernel_rfl
theorem arr_key : Tryd.prog.underlying 31 = some (.array 32 5) := by kernel_rfl
def keyByte (n : Int) (i : Nat) : Int := (n / 2 ^ (i % 8 * 4) + 17 * (i : Int)) % 256
def keyTo (n : Int) (i : Nat) : List Int := (List.range i).map (keyByte n) ++ List.replicate (32 - i) 0
def keyOf (n : Int) : List Int := (List.range 32).map (keyByte n)
theorem keyTo_length (n : Int) (i : Nat) (h : i ≤ 32) : (keyTo n i).length = 32 := by simp [keyTo]; omega
theorem keyOf_length (n : Int) : (keyOf n).length = 32 := by simp [keyOf]
theorem keyTo_all (n : Int) : keyTo n 32 = keyOf n := by simp [keyTo, keyOf]
theorem keyTo_set (n : Int) (i : Nat) (h : i < 32) : (keyTo n i).set i (keyByte n i) = keyTo n (i + 1) := by
  unfold keyTo
  have h1 : ((List.range i).map (keyByte n)).length = i := by simp
  rw [List.set_append_right _ _ (by omega), h1, Nat.sub_self, List.range_succ, List.map_append, List.append_assoc]
  have h2 : 32 - i = (32 - (i + 1)) + 1 := by omega
  rw [h2, List.replicate_succ]
  rfl
theorem keyByte_ok (n : Int) (i : Nat) : 0 ≤ keyByte n i ∧ keyByte n i < 256 := ⟨Int.emod_nonneg _ (by decide), Int.emod_lt_of_pos _ (by decide)⟩
theorem keyOf_ok (n : Int) : bytesOk (keyOf n) := by
  intro i
  unfold rd keyOf
  rw [List.getD_eq_getElem?_getD, List.getElem?_map]
  cases hx : (List.range 32)[i]? with
  | none => simp
  | some j => exact keyByte_ok n j
theorem keyOf_first (n : Int) : (keyOf n)[0]? = some (n % 256) := by simp [keyOf, keyByte]
theorem keyOf_ne {a b : Int} (ha : 0 ≤ a ∧ a < 256) (hb : 0 ≤ b ∧ b < 256) (h : a ≠ b) : keyOf a ≠ keyOf b := fun he => by
  have h1 := keyOf_first a
  rw [he, keyOf_first b] at h1
  injection h1 with h1
  omega
set_option maxHeartbeats 1000000 in
set_option maxRecDepth 100000 in
theorem keyC_calls (n : Int) (w : World) :
    Calls Tryd.prog 12 #[.int .i64 n] w fun e w' => e = .returned (.agg (ints .u8 (keyOf n)).toArray) ∧ Below w.heap.size w w' := by
  go_enter Tryd.func12, Tryd.ntmps12
  go_wp2
  go_loopg [4] 32 (fun kq v4 wr => ∃ i : Nat, i ≤ 32 ∧ v4 = .int .i64 i ∧ Hd (kq = 32 - i) ∧ Blk wr (w.heap.size + 1) 31 (ints .u8 (keyTo n i)) ∧ Blk wr w.heap.size 31 (ints .u8 (List.replicate 32 0)) ∧ Hd (Below w.heap.size w wr))
  case atStart =>
    refine ⟨0, by omega, rfl, hid rfl, ?_, ?_, hid ?_⟩
    · exact Blk.new' (w.alloc _) 31 (ints .u8 (List.replicate 32 0)) _ (by simp)
    · exact (Blk.new w 31 (ints .u8 (List.replicate 32 0))).alloc _
    · exact ((Below.refl _ _).alloc (Nat.le_refl _) _).alloc (by simp) _
  case round =>
    obtain ⟨i, hi, rfl, hk, h1, h0, hb⟩ := hrel
    have hl := hid (keyTo_length n i hi)
    by_cases hlt : i < 32
    · have hc := h1.cellI i (by rw [hl.out]; omega)
      have hf := h1.frozen i
      go_wp2
      go_roundg (gk - 1)
      case measure => have := hk.out; omega
      case rel =>
        refine ⟨i + 1, by omega, by go_num, hid ?_, ?_, h0.setOther (by simp) _, hid (hb.out.setCell (by simp) _)⟩
        · have := hk.out; omega
        · have h2 := h1.setI i (keyByte n i)
          rw [keyTo_set n i hlt] at h2
          exact h2
    · obtain rfl : i = 32 := by omega
      rw [keyTo_all] at h1
      have hl32 : (ints .u8 (keyOf n)).length = 32 := by simp [keyOf_length]
      go_wp2_with (first
        | (refine load_blk rfl 31 _ rfl (w.heap.size + 1) rfl 31 _ h1 32 5 arr_key hl32 info_key ?_)
        | (refine store_blk rfl 31 _ _ rfl w.heap.size _ rfl rfl 31 _ h0 32 info_key hl32 (by simp) (ints_one _ _) ?_))
      refine bodyPost_ret (results_blk rfl _ _ w.heap.size 31 _ 32 5 rfl (h0.setRow _) arr_key hl32 info_key) rfl ?_
      exact ⟨rfl, below_setRow hb.out (Nat.le_refl _) _⟩
end Go.Proofs.YtinpilfnnmkpoaaDoor
/- Errors as faults. -/
namespace Go.Proofs.YtinpilfnnmkpoaaDoor
open Go.RowKit Go.Cour
theorem assert_err (a : Addr) (w : World) : (Instr.typeAssert (errV a) 27 87 true).run Tryd.prog w = .ok (.tuple #[.pointer none, .bool false]) w := by kernel_rfl
set_option maxHeartbeats 400000 in
set_option maxRecDepth 100000 in
theorem fault_nil_calls (w : World) : Calls Tryd.prog 39 #[.nilIface] w fun e w' => e = .returned (.agg (faultC 0 false 0).toArray) ∧ Below w.heap.size w w' := by
  obtain ⟨fs, hfs⟩ := undF
  have h2 := nil_nil
  go_enter Tryd.func39, Tryd.ntmps39
  go_wp2_with (first
    | (refine alloc_blk rfl 66 rfl _ rfl (faultC 0 false 0) zeroF ?_; intro g1 w1 hg1 hb1 hB1 hs1; clear hs1)
    | (go_at_call 46; refine (none_calls _).mono ?_; rintro e w2 ⟨rfl, hB2⟩; have hb2 := hb1.belowAll hB2)
    | (refine store_blk rfl 66 _ _ rfl g1 (faultC 0 false 0) rfl rfl 66 _ hb2 3 infoF rfl rfl (oneF _ _ _) ?_)
    | fail)
  refine bodyPost_ret (results_str1 rfl _ _ g1 66 _ fs rfl (hb2.setRow (faultC 0 false 0)) hfs infoF) rfl ?_
  exact ⟨rfl, below_setRow (below_then hB1 hB1.size hB2) (by omega) _⟩
set_option maxHeartbeats 400000 in
set_option maxRecDepth 100000 in
theorem fault_calls {w : World} {P : Nat → Addr} (h : Errs w P) (k : Nat) (hk : k < 19) : Calls Tryd.prog 39 #[errV (P k)] w fun e w' => e = .returned (.agg (faultC (101 + (k : Int)) false 0).toArray) ∧ Below w.heap.size w w' := by
  obtain ⟨fs, hfs⟩ := undF
  have h2 := err_nil_right (P k)
  have h4 := fun op t x y v => eqGuard_err op t x y (P k) v
  have h5 := assert_err (P k)
  obtain ⟨c, hc⟩ : ∃ c : Int, Hd (101 + (k : Int) = c) := ⟨_, ⟨rfl⟩⟩
  rw [hc.out]
  go_enter Tryd.func39, Tryd.ntmps39
  go_wp2_with (first
    | (refine alloc_blk rfl 66 rfl _ rfl (faultC 0 false 0) zeroF ?_; intro g1 w1 hg1 hb1 hB1 hs1; clear hs1)
    | (go_at_call 47; refine (sentinel_calls (h.below hB1) k hk).mono ?_; rintro e w2 ⟨rfl, hB2⟩; rw [hc.out]; have hb2 := hb1.belowAll hB2)
    | (go_at_call 29; refine (bare_calls _ _).mono ?_; rintro e w3 ⟨rfl, hB3⟩; have hb3 := hb2.belowAll hB3)
    | (refine store_blk rfl 66 _ _ rfl g1 (faultC c false 0) rfl rfl 66 _ hb3 3 infoF rfl rfl (oneF _ _ _) ?_)
    | fail)
  refine bodyPost_ret (results_str1 rfl _ _ g1 66 _ fs rfl (hb3.setRow (faultC c false 0)) hfs infoF) rfl ?_
  exact ⟨rfl, below_setRow (below_then (below_then hB1 hB1.size hB2) (by have := hB1.size; have := hB2.size; omega) hB3) (by omega) _⟩
end Go.Proofs.YtinpilfnnmkpoaaDoor
/- Is: an error, held against a number. -/
namespace Go.Proofs.YtinpilfnnmkpoaaDoor
open Go.RowKit Go.Cour
set_option maxHeartbeats 400000 in
set_option maxRecDepth 100000 in
theorem same_nil_calls (c : Int) (w : World) : Calls Tryd.prog 28 #[.nilIface, .agg (faultC c false 0).toArray] w fun e w' => e = .returned (.bool ((0 : Int) == c)) ∧ Below w.heap.size w w' := by
  obtain ⟨fs, hfs⟩ := undF
  go_enter Tryd.func28, Tryd.ntmps28
  go_wp2_with (first
    | (refine box_blk rfl 66 _ rfl _ rfl (faultC c false 0) rfl ?_; intro g4 w1 hg4 hb4 hB1 hs1; clear hg4 hs1)
    | fail)
  refine wp_region_facts (ix := [[0], [1], [2], [3], [4]]) (S := fun w' => Blk w' g4 66 (faultC c false 0) ∧ Below w.heap.size w w')
    (R := fun w1 w2 => Below w1.heap.size w1 w2)
    (p := fun jO vs w' => match jO with
      | 0 => vs 0 = .nilIface
      | 1 => vs 1 = .agg (faultC ((0 : Int)) false 0).toArray
      | 2 => vs 2 = .agg (faultC c false 0).toArray
      | 3 => vs 3 = .bool ((0 : Int) == c)
      | 4 => vs 4 = .bool ((0 : Int) == c)
      | _ => True)
    (by kernel_rfl) (by kernel_rfl) ?_ ?_ ?_ ?_
  · exact ⟨hb4.drew, below_drewN hB1 1⟩
  · intro jO vs w1 w2 hR h
    match jO with
    | 0 | 1 | 2 | 3 | 4 => exact h
    | nO + 5 => trivial
  · refine ⟨?_, ?_, ?_, ?_, ?_, trivial⟩
    · (intro vs w2 hS hd; simp [Region.binds, Fact.at] at hd; simp only [fill, List.take_succ_cons, List.take_zero, Act.put, List.setIfInBounds_toArray, List.set_cons_zero, List.set_cons_succ, Nat.reduceAdd])
      try simp only [hd]
      go_wp2_with fail
      exact ⟨rfl, rfl, hS, Below.refl _ _⟩
    · (intro vs w2 hS hd; simp [Region.binds, Fact.at] at hd; simp only [fill, List.take_succ_cons, List.take_zero, Act.put, List.setIfInBounds_toArray, List.set_cons_zero, List.set_cons_succ, Nat.reduceAdd])
      simp only [hd]
      go_wp2_with (first
        | (go_at_call 39; refine (fault_nil_calls _).mono ?_; rintro e w3 ⟨rfl, hB⟩)
        | fail)
      exact ⟨rfl, rfl, ⟨hS.1.belowAll hB, below_then hS.2 hS.2.size hB⟩, hB⟩
    · (intro vs w2 hS hd; simp [Region.binds, Fact.at] at hd; simp only [fill, List.take_succ_cons, List.take_zero, Act.put, List.setIfInBounds_toArray, List.set_cons_zero, List.set_cons_succ, Nat.reduceAdd])
      try simp only [hd]
      go_wp2_with (first
        | (refine load_str rfl 66 _ rfl g4 rfl 66 _ hS.1 fs hfs infoF ?_)
        | fail)
      exact ⟨rfl, rfl, hS, Below.refl _ _⟩
    · (intro vs w2 hS hd; simp [Region.binds, Fact.at] at hd; simp only [fill, List.take_succ_cons, List.take_zero, Act.put, List.setIfInBounds_toArray, List.set_cons_zero, List.set_cons_succ, Nat.reduceAdd])
      simp only [hd]
      go_wp2_with (first
        | (go_at_call 38; refine (sameFault_calls ((0 : Int)) c _).mono ?_; rintro e w3 ⟨rfl, hB⟩)
        | fail)
      exact ⟨rfl, rfl, ⟨hS.1.belowAll hB, below_then hS.2 hS.2.size hB⟩, hB⟩
    · (intro vs w2 hS hd; simp [Region.binds, Fact.at] at hd; simp only [fill, List.take_succ_cons, List.take_zero, Act.put, List.setIfInBounds_toArray, List.set_cons_zero, List.set_cons_succ, Nat.reduceAdd])
      simp only [hd]
      go_wp2_with fail
      exact ⟨rfl, rfl, hS, Below.refl _ _⟩
  · intro vs wq hf hS
    have h4 : vs 4 = .bool ((0 : Int) == c) := hf 4 (by simp)
    simp only [fill, Act.put, List.setIfInBounds_toArray, List.set_cons_zero, List.set_cons_succ, Nat.reduceAdd]
    clear hf
    go_wp2_with fail
    go_ret
    exact ⟨congrArg Ending.returned h4, hS.2⟩
set_option maxHeartbeats 400000 in
set_option maxRecDepth 100000 in
theorem same_err_calls (c : Int) {w : World} {P : Nat → Addr} (h : Errs w P) (k : Nat) (hk : k < 19) : Calls Tryd.prog 28 #[errV (P k), .agg (faultC c false 0).toArray] w fun e w' => e = .returned (.bool (101 + (k : Int) == c)) ∧ Below w.heap.size w w' := by
  obtain ⟨fs, hfs⟩ := undF
  go_enter Tryd.func28, Tryd.ntmps28
  go_wp2_with (first
    | (refine box_blk rfl 66 _ rfl _ rfl (faultC c false 0) rfl ?_; intro g4 w1 hg4 hb4 hB1 hs1; clear hg4 hs1)
    | fail)
  refine wp_region_facts (ix := [[0], [1], [2], [3], [4]]) (S := fun w' => Blk w' g4 66 (faultC c false 0) ∧ Below w.heap.size w w')
    (R := fun w1 w2 => Below w1.heap.size w1 w2)
    (p := fun jO vs w' => match jO with
      | 0 => vs 0 = errV (P k)
      | 1 => vs 1 = .agg (faultC (101 + (k : Int)) false 0).toArray
      | 2 => vs 2 = .agg (faultC c false 0).toArray
      | 3 => vs 3 = .bool (101 + (k : Int) == c)
      | 4 => vs 4 = .bool (101 + (k : Int) == c)
      | _ => True)
    (by kernel_rfl) (by kernel_rfl) ?_ ?_ ?_ ?_
  · exact ⟨hb4.drew, below_drewN hB1 1⟩
  · intro jO vs w1 w2 hR h
    match jO with
    | 0 | 1 | 2 | 3 | 4 => exact h
    | nO + 5 => trivial
  · refine ⟨?_, ?_, ?_, ?_, ?_, trivial⟩
    · (intro vs w2 hS hd; simp [Region.binds, Fact.at] at hd; simp only [fill, List.take_succ_cons, List.take_zero, Act.put, List.setIfInBounds_toArray, List.set_cons_zero, List.set_cons_succ, Nat.reduceAdd])
      try simp only [hd]
      go_wp2_with fail
      exact ⟨rfl, rfl, hS, Below.refl _ _⟩
    · (intro vs w2 hS hd; simp [Region.binds, Fact.at] at hd; simp only [fill, List.take_succ_cons, List.take_zero, Act.put, List.setIfInBounds_toArray, List.set_cons_zero, List.set_cons_succ, Nat.reduceAdd])
      simp only [hd]
      go_wp2_with (first
        | (go_at_call 39; refine (fault_calls (h.below hS.2) k hk).mono ?_; rintro e w3 ⟨rfl, hB⟩)
        | fail)
      exact ⟨rfl, rfl, ⟨hS.1.belowAll hB, below_then hS.2 hS.2.size hB⟩, hB⟩
    · (intro vs w2 hS hd; simp [Region.binds, Fact.at] at hd; simp only [fill, List.take_succ_cons, List.take_zero, Act.put, List.setIfInBounds_toArray, List.set_cons_zero, List.set_cons_succ, Nat.reduceAdd])
      try simp only [hd]
      go_wp2_with (first
        | (refine load_str rfl 66 _ rfl g4 rfl 66 _ hS.1 fs hfs infoF ?_)
        | fail)
      exact ⟨rfl, rfl, hS, Below.refl _ _⟩
    · (intro vs w2 hS hd; simp [Region.binds, Fact.at] at hd; simp only [fill, List.take_succ_cons, List.take_zero, Act.put, List.setIfInBounds_toArray, List.set_cons_zero, List.set_cons_succ, Nat.reduceAdd])
      simp only [hd]
      go_wp2_with (first
        | (go_at_call 38; refine (sameFault_calls (101 + (k : Int)) c _).mono ?_; rintro e w3 ⟨rfl, hB⟩)
        | fail)
      exact ⟨rfl, rfl, ⟨hS.1.belowAll hB, below_then hS.2 hS.2.size hB⟩, hB⟩
    · (intro vs w2 hS hd; simp [Region.binds, Fact.at] at hd; simp only [fill, List.take_succ_cons, List.take_zero, Act.put, List.setIfInBounds_toArray, List.set_cons_zero, List.set_cons_succ, Nat.reduceAdd])
      simp only [hd]
      go_wp2_with fail
      exact ⟨rfl, rfl, hS, Below.refl _ _⟩
  · intro vs wq hf hS
    have h4 : vs 4 = .bool (101 + (k : Int) == c) := hf 4 (by simp)
    simp only [fill, Act.put, List.setIfInBounds_toArray, List.set_cons_zero, List.set_cons_succ, Nat.reduceAdd]
    clear hf
    go_wp2_with fail
    go_ret
    exact ⟨congrArg Ending.returned h4, hS.2⟩
set_option maxHeartbeats 400000 in
theorem is_nil_calls (c : Int) (w : World) : Calls Tryd.prog 13 #[.nilIface, .int .i64 c] w fun e w' => e = .returned (.bool ((0 : Int) == c)) ∧ Below w.heap.size w w' := by
  go_enter Tryd.func13, Tryd.ntmps13
  go_wp2_with (first
    | (go_at_call 29; refine (bare_calls _ _).mono ?_; rintro e w1 ⟨rfl, hB1⟩)
    | (go_at_call 28; refine (same_nil_calls c _).mono ?_; rintro e w2 ⟨rfl, hB2⟩)
    | fail)
  go_ret
  exact ⟨rfl, below_then hB1 hB1.size hB2⟩
set_option maxHeartbeats 400000 in
theorem is_err_calls (c : Int) {w : World} {P : Nat → Addr} (h : Errs w P) (k : Nat) (hk : k < 19) : Calls Tryd.prog 13 #[errV (P k), .int .i64 c] w fun e w' => e = .returned (.bool (101 + (k : Int) == c)) ∧ Below w.heap.size w w' := by
  go_enter Tryd.func13, Tryd.ntmps13
  go_wp2_with (first
    | (go_at_call 29; refine (bare_calls _ _).mono ?_; rintro e w1 ⟨rfl, hB1⟩)
    | (go_at_call 28; refine (same_err_calls c (h.below hB1) k hk).mono ?_; rintro e w2 ⟨rfl, hB2⟩)
    | fail)
  go_ret
  exact ⟨rfl, below_then hB1 hB1.size hB2⟩
end Go.Proofs.YtinpilfnnmkpoaaDoor
/- Number: a number from 0 to below a bound. -/
namespace Go.Proofs.YtinpilfnnmkpoaaDoor
open Go.RowKit Go.Cour
theorem tmod_low (a b : Int) (hb : 0 < b) : -b < a.tmod b ∧ a.tmod b < b := by
  have := Int.tmod_lt_of_pos a hb
  have := Int.lt_tmod_of_pos a hb
  omega
theorem emod_of_tmod (a b : Int) (hb : 0 < b) : a % b = if a.tmod b < 0 then a.tmod b + b else a.tmod b := by
  have h1 := tmod_low a b hb
  have h2 := Int.mul_tdiv_add_tmod a b
  split
  · refine (Int.emod_emod_of_dvd a (Int.dvd_refl b)).symm.trans ?_
    rw [← h2]
    have : (b * a.tdiv b + a.tmod b) % b = (a.tmod b + b) % b := by
      rw [Int.add_comm, Int.add_mul_emod_self_left, Int.add_emod_right]
    rw [h2] at this ⊢
    rw [Int.emod_emod_of_dvd _ (Int.dvd_refl b), this]
    exact Int.emod_eq_of_lt (by omega) (by omega)
  · have : (b * a.tdiv b + a.tmod b) % b = a.tmod b % b := by
      rw [Int.add_comm, Int.add_mul_emod_self_left]
    rw [h2] at this
    rw [this]
    exact Int.emod_eq_of_lt (by omega) (by omega)
theorem number_calls (a b : Int) (w : World) (hb : 0 < b) (hb2 : b < 4611686018427387904) :
    Calls Tryd.prog 9 #[.int .i64 a, .int .i64 b] w fun e w' => e = .returned (.int .i64 (a % b)) ∧ w' = w := by
  have hl := tmod_low a b hb
  have HE := hid (emod_of_tmod a b hb)
  have hbz : (b == 0) = false := by rw [beq_eq_false_iff_ne]; omega
  have hlt1 := hl.1
  have hlt2 := hl.2
  clear hl
  by_cases hn : a.tmod b < 0
  · go_enter Tryd.func9, Tryd.ntmps9
    go_wp2
    go_ret
    exact ⟨by rw [HE.out, if_pos hn]; rfl, rfl⟩
  · go_enter Tryd.func9, Tryd.ntmps9
    go_wp2
    go_ret
    exact ⟨by rw [HE.out, if_neg (by omega)]; rfl, rfl⟩
end Go.Proofs.YtinpilfnnmkpoaaDoor
/- The store as the laws see it; the chapter's examples. -/
namespace Go.Proofs.YtinpilfnnmkpoaaDoor
open Go.RowKit Go.Cour
def codeOf : Option Nat → Int
  | none => 0
  | some k => 101 + (k : Int)
theorem is_erV_calls (c : Int) {w : World} {P : Nat → Addr} {B : Nat} (hE : ErrsAt w P B) (o : Option Nat) (ho : ∀ k, o = some k → k < 19) :
    Calls Tryd.prog 13 #[erV P o, .int .i64 c] w fun e w' => e = .returned (.bool (codeOf o == c)) ∧ Below w.heap.size w w' := by
  cases o with
  | none => exact is_nil_calls c w
  | some k => exact is_err_calls c hE.errs k (ho k rfl)
theorem nil_neqK (w : World) : (binOp .neq 27 .nilIface .nilIface).run Tryd.prog w = .ok (.bool false) w := by
  obtain ⟨ms, hms⟩ := undErr
  have h : ∀ d : Nat, (Op.equalIn (d + 1) 27 .nilIface .nilIface).run Tryd.prog w = .ok true w := fun d => by simp [Op.equalIn, run_underlying hms]
  simp only [binOp]
  simp [Op.equal, Op.maxDepth, h 9999]
theorem nil_eqlK (w : World) : (binOp .eql 27 .nilIface .nilIface).run Tryd.prog w = .ok (.bool true) w := by
  obtain ⟨ms, hms⟩ := undErr
  have h : ∀ d : Nat, (Op.equalIn (d + 1) 27 .nilIface .nilIface).run Tryd.prog w = .ok true w := fun d => by simp [Op.equalIn, run_underlying hms]
  simp only [binOp]
  simp [Op.equal, Op.maxDepth, h 9999]
/-- The store as the laws see it: all that it stands on lies from B on. -/
def Sto (w : World) (B : Nat) (F : Nat → Prop) (gs : Nat) (st : StoreD) : Prop := (∃ v vs F2, StoreAt w F gs st v vs F2) ∧ (∀ k, F k → B ≤ k) ∧ B ≤ w.heap.size
theorem Sto.lt {w : World} {B : Nat} {F : Nat → Prop} {gs : Nat} {st : StoreD} (h : Sto w B F gs st) (k : Nat) (hk : F k) : k < w.heap.size := by
  obtain ⟨⟨v, vs, F2, h1⟩, _⟩ := h
  exact h1.lt k hk
theorem Sto.below {w w' : World} {B : Nat} {F : Nat → Prop} {gs : Nat} {st : StoreD} (h : Sto w B F gs st) (hb : Below w.heap.size w w') : Sto w' B F gs st := by
  obtain ⟨⟨v, vs, F2, h1⟩, h2, h3⟩ := h
  exact ⟨⟨v, vs, F2, h1.below hb⟩, h2, Nat.le_trans h3 hb.size⟩
theorem Sto.upd {w w' : World} {B : Nat} {F G : Nat → Prop} {gs : Nat} {st : StoreD} (h : Sto w B F gs st) (hu : Upd G w w') (hd : ∀ k, F k → ¬ G k) : Sto w' B F gs st := by
  obtain ⟨⟨v, vs, F2, h1⟩, h2, h3⟩ := h
  exact ⟨⟨v, vs, F2, h1.upd hu hd⟩, h2, Nat.le_trans h3 hu.size⟩
theorem Becomes.sto {w w' : World} {B : Nat} {F : Nat → Prop} {gs : Nat} {st st' : StoreD} (h : Sto w B F gs st) (hb : Becomes w F gs w' st') : ∃ F', Sto w' B F' gs st' ∧ Sub F' F w ∧ Upd F w w' ∧ Below B w w' := by
  obtain ⟨F', v, vs, F2, h1, h2, h3⟩ := hb
  exact ⟨F', ⟨⟨v, vs, F2, h1⟩, fun k hk => by
    rcases h2 k hk with h4 | h4
    · exact h.2.1 k h4
    · have := h.2.2; omega, Nat.le_trans h.2.2 h3.size⟩, h2, h3, h3.below h.2.2 h.2.1⟩
section
variable {w : World} {P : Nat → Addr} {B : Nat} {F : Nat → Prop} {gs : Nat} {st : StoreD}
theorem openX (id : List Int) (n : Int) (hE : ErrsAt w P B) (h : Sto w B F gs st) (hG : Good st) (hid' : id.length = 32) :
    Calls Tryd.prog 11 #[.pointer (some ⟨gs, 0, none⟩), .agg (ints .u8 id).toArray, .int .i64 n] w fun e w' => e = .returned (erV P (openE st id n)) ∧ ∃ F', Sto w' B F' gs (openS st id n) ∧ Sub F' F w ∧ Upd F w w' ∧ Below B w w' := by
  have h0 := h
  obtain ⟨⟨v, vs, F2, h1⟩, h2, h3⟩ := h
  exact (bopen_calls id n hE h3 h2 h1 hG hid').mono fun e w' ⟨he, hb⟩ => ⟨he, hb.sto h0⟩
theorem usedX (h : Sto w B F gs st) (hG : Good st) :
    Calls Tryd.prog 14 #[.pointer (some ⟨gs, 0, none⟩)] w fun e w' => e = .returned (.int .i64 (used st.l)) ∧ Below w.heap.size w w' := by
  obtain ⟨⟨v, vs, F2, h1⟩, _⟩ := h
  exact (bused_calls h1 hG).mono fun e w' ⟨he, q, hq⟩ => ⟨he, hq ▸ below_drewN (Below.refl _ _) q⟩
theorem tickX (h : Sto w B F gs st) (hlen : st.l.length ≤ 1000000) (hage : ∀ x ∈ st.l, 0 ≤ x.age ∧ x.age < 1000000) :
    Calls Tryd.prog 15 #[.pointer (some ⟨gs, 0, none⟩)] w fun e w' => e = .returned (.int .i64 ((st.l.length : Int) - (tickL st).length)) ∧ ∃ F', Sto w' B F' gs { st with l := tickL st } ∧ Sub F' F w ∧ Upd F w w' ∧ Below B w w' := by
  have h0 := h
  obtain ⟨⟨v, vs, F2, h1⟩, h2, h3⟩ := h
  exact (btick_calls h1 hlen hage).mono fun e w' ⟨he, hb⟩ => ⟨he, hb.sto h0⟩
theorem statX (id : List Int) (hE : ErrsAt w P B) (h : Sto w B F gs st) (hid' : id.length = 32) (hlen : st.l.length ≤ 1000000) :
    Calls Tryd.prog 16 #[.pointer (some ⟨gs, 0, none⟩), .agg (ints .u8 id).toArray] w fun e w' => e = .returned (.tuple #[.int .i64 (statOf id st.l).1, .bool (statOf id st.l).2.1, erV P (statOf id st.l).2.2]) ∧ ∃ F', Sto w' B F' gs { st with l := touch id st.l } ∧ Sub F' F w ∧ Upd F w w' ∧ Below B w w' := by
  have h0 := h
  obtain ⟨⟨v, vs, F2, h1⟩, h2, h3⟩ := h
  exact (stat_calls id hE h3 h2 h1 hid' hlen).mono fun e w' ⟨he, hb⟩ => ⟨he, hb.sto h0⟩
theorem getX (id : List Int) (off n : Int) (hE : ErrsAt w P B) (h : Sto w B F gs st) (hid' : id.length = 32) (hlen : st.l.length ≤ 1000000) (hbl : ∀ x ∈ st.l, x.b.length ≤ 1000000)
    (ho : -9223372036854775808 ≤ off ∧ off < 9223372036854775808) (hn : -9223372036854775808 ≤ n ∧ n < 9223372036854775808) :
    Calls Tryd.prog 20 #[.pointer (some ⟨gs, 0, none⟩), .agg (ints .u8 id).toArray, .int .i64 off, .int .i64 n] w fun e w' => (∃ u, e = .returned (.tuple #[u, erV P (getOf id off n st.l).2]) ∧ Own w' w.heap.size 5 .u8 u (getOf id off n st.l).1) ∧ ∃ F', Sto w' B F' gs { st with l := touch id st.l } ∧ Sub F' F w ∧ Upd F w w' ∧ Below B w w' := by
  have h0 := h
  obtain ⟨⟨v, vs, F2, h1⟩, h2, h3⟩ := h
  exact (get_calls id off n hE h3 h2 h1 hid' hlen hbl ho hn).mono fun e w' ⟨he, hb⟩ => ⟨he, hb.sto h0⟩
theorem allX (h : Sto w B F gs st) (hlen : st.l.length ≤ 1000000) :
    Calls Tryd.prog 17 #[.pointer (some ⟨gs, 0, none⟩)] w fun e w' => ∃ v', e = .returned v' ∧ OwnA w' 30 32 v' (idRows st.l) ∧ (∀ k, v'.ownBlock = some k → w.heap.size ≤ k) ∧ Below w.heap.size w w' := by
  obtain ⟨⟨v, vs, F2, h1⟩, _⟩ := h
  exact ball_calls h1 hlen
end
theorem newX (quota life : Int) (w : World) (B : Nat) (hB : B ≤ w.heap.size) :
    Calls Tryd.prog 10 #[.int .i64 quota, .int .i64 life] w fun e w' => ∃ gs F, e = .returned (.pointer (some ⟨gs, 0, none⟩)) ∧ Sto w' B F gs ⟨quota, max life 1, []⟩ ∧ (∀ k, F k → w.heap.size ≤ k) ∧ Below w.heap.size w w' :=
  (bnew_calls quota life w).mono fun e w' ⟨gs, F, F2, he, h1, h2, h3⟩ => ⟨gs, F, he, ⟨⟨_, _, F2, h1⟩, fun k hk => Nat.le_trans hB (h2 k hk), Nat.le_trans hB h3.size⟩, h2, h3⟩
theorem builtHash0 : Tryd.prog.built 30 [] = some (ints .u8 (List.replicate 32 0)).toArray := by kernel_rfl
/-- A digest of one number. -/
def hash1 (b : Int) : List Int := b :: List.replicate 31 0
theorem hash1_length (b : Int) : (hash1 b).length = 32 := by simp [hash1]
theorem builtHash1 (b : Int) : Tryd.prog.built 30 [(0, .int .u8 b)] = some (ints .u8 (hash1 b)).toArray := by kernel_rfl
theorem Good.nil (quota life : Int) (h : 0 ≤ quota ∧ quota < 4611686018427387904) : Good ⟨quota, life, []⟩ := ⟨by simp, fun x hx => by simp at hx, fun x hx => by simp at hx, h⟩
set_option maxHeartbeats 1000000 in
set_option maxRecDepth 100000 in
theorem first20_calls {w : World} {P : Nat → Addr} (hE : Errs w P) : Calls Tryd.prog 8 #[] w fun e w' => e = .returned (.bool true) ∧ Below w.heap.size w w' := by
  have hEA := ErrsAt.of hE
  have hne := nil_eqlK
  obtain ⟨Z, hZ⟩ : ∃ Z, Hd (List.replicate 32 (0 : Int) = Z) := ⟨_, ⟨rfl⟩⟩
  obtain ⟨H1, hH1⟩ : ∃ H1, Hd (hash1 1 = H1) := ⟨_, ⟨rfl⟩⟩
  have z32 : Z.length = 32 := by rw [← hZ.out]; simp
  have z1 : H1.length = 32 := by rw [← hH1.out]; exact hash1_length 1
  have hg0 := Good.nil 100 5 (by omega)
  have hm : max (5 : Int) 1 = 5 := by omega
  have hgo : getOf Z 0 1 [] = ([], some 13) := rfl
  have htt : touch Z [] = [] := rfl
  have hoe : openE ⟨100, 5, []⟩ H1 50 = none := by simp [openE, posOf, used]
  have hos : openS ⟨100, 5, []⟩ H1 50 = ⟨100, 5, [newItem H1 50]⟩ := by simp [openS, posOf, used]
  have hg1 : Good ⟨100, 5, [newItem H1 50]⟩ := ⟨by simp, fun x hx => by simp at hx; subst hx; simp [newItem], fun x hx => by simp at hx; subst hx; simp [newItem], by simp⟩
  have hus : used [newItem H1 50] = 50 := by simp [used, newItem]
  go_enter Tryd.func8, Tryd.ntmps8
  go_wp2_with (first
    | (go_at_call 10; refine (newX 100 5 w w.heap.size (Nat.le_refl _)).mono ?_; rintro e w1 ⟨gs, F, rfl, hs, hF, hB1⟩; rw [hm] at hs)
    | (refine build_to rfl 30 #[] rfl (ints .u8 (List.replicate 32 0)).toArray (by rw [Array.toList_map]; exact builtHash0) ?_; rw [hZ.out])
    | (refine build_to rfl 30 _ rfl (ints .u8 (hash1 1)).toArray (by rw [Array.toList_map]; exact builtHash1 1) ?_; rw [hH1.out])
    | (go_at_call 20; refine (getX Z 0 1 (hEA.below hB1) hs z32 (by simp) (fun x hx => by simp at hx) (by omega) (by omega)).mono ?_
       rintro e w2 ⟨⟨u, rfl, ho⟩, F', hs2, _, _, hB2⟩
       simp only [hgo] at ho ⊢
       simp only [htt] at hs2
       obtain ⟨A, c, hu, _, _, _⟩ := ho.parts
       subst hu
       have hB12 : Below w.heap.size w w2 := hB1.trans hB2)
    | (go_at_call 13; refine (is_erV_calls 114 (hEA.below hB12) (some 13) (fun k hk => by injection hk with hk; omega)).mono ?_; rintro e w3 ⟨rfl, hB3⟩)
    | (go_at_call 11; refine (openX H1 50 (hEA.below (hB12.trans (hB3.mono hB12.size))) (hs2.below hB3) hg0 z1).mono ?_
       rintro e w4 ⟨rfl, F4, hs4, _, _, hB4⟩
       rw [hoe]
       rw [hos] at hs4
       simp only [erV])
    | (go_at_call 14; refine (usedX hs4 hg1).mono ?_; rintro e w5 ⟨rfl, hB5⟩; simp only [hus])
    | fail)
  go_ret
  have h1 := hB12.trans (hB3.mono hB12.size)
  have h2 := h1.trans hB4
  exact ⟨rfl, h2.trans (hB5.mono h2.size)⟩
end Go.Proofs.YtinpilfnnmkpoaaDoor
/- The law BlobRoom. -/
namespace Go.Proofs.YtinpilfnnmkpoaaDoor
open Go.RowKit Go.Cour
/-- Blob number j of the law's. -/
def rItem (n : Int) (a : Int) (m j : Nat) : Item := ⟨keyOf j, n, [], false, if j = m then 0 else a⟩
def rL (n a : Int) (m k : Nat) : List Item := (List.range k).map (rItem n a m)
theorem rL_length (n a : Int) (m k : Nat) : (rL n a m k).length = k := by simp [rL]
theorem rL_get {n a : Int} {m k i : Nat} (h : i < k) : (rL n a m k)[i]? = some (rItem n a m i) := by simp [rL, h]
theorem rL_succ (n a : Int) (m k : Nat) : rL n a m (k + 1) = rL n a m k ++ [rItem n a m k] := by simp [rL, List.range_succ]
theorem posOf_unique {id : List Int} {l : List Item} {m : Nat} {x : Item} (hx : l[m]? = some x) (he : x.id = id) (hn : ∀ (j : Nat) (y : Item), j < m → l[j]? = some y → y.id ≠ id) : posOf id l = m := by
  have hl := (List.getElem?_eq_some_iff.1 hx).1
  rcases Nat.lt_trichotomy (posOf id l) m with h | h | h
  · obtain ⟨y, hy⟩ : ∃ y, l[posOf id l]? = some y := ⟨_, List.getElem?_eq_getElem (by omega)⟩
    exact (hn _ y h hy (posOf_eq hy)).elim
  · exact h
  · exact (posOf_ne h hx he).elim
theorem posOf_none {id : List Int} {l : List Item} (hn : ∀ (j : Nat) (y : Item), l[j]? = some y → y.id ≠ id) : posOf id l = l.length := by
  have h1 := posOf_le id l
  rcases Nat.lt_or_ge (posOf id l) l.length with h | h
  · obtain ⟨y, hy⟩ : ∃ y, l[posOf id l]? = some y := ⟨_, List.getElem?_eq_getElem h⟩
    exact (hn _ y hy (posOf_eq hy)).elim
  · omega
theorem rL_none {n a : Int} {m k : Nat} {q : Int} (hq : 0 ≤ q ∧ q < 256) (hk : (k : Int) ≤ q) : posOf (keyOf q) (rL n a m k) = k := by
  rw [posOf_none, rL_length]
  intro j y hy
  have hl := (List.getElem?_eq_some_iff.1 hy).1
  rw [rL_length] at hl
  rw [rL_get hl] at hy
  injection hy with hy
  subst hy
  exact keyOf_ne (by omega) hq (by omega)
theorem rL_pos {n a : Int} {m m' k : Nat} (hm : m < k) (hk : k ≤ 256) : posOf (keyOf m) (rL n a m' k) = m := by
  refine posOf_unique (rL_get hm) rfl fun j y hj hy => ?_
  rw [rL_get (by omega)] at hy
  injection hy with hy
  subst hy
  exact keyOf_ne (by omega) (by omega) (by omega)
theorem rL_used (n a : Int) (m k : Nat) : used (rL n a m k) = k * n := by
  induction k with
  | zero => simp [rL, used]
  | succ k ih =>
    rw [rL_succ]
    have : used (rL n a m k ++ [rItem n a m k]) = used (rL n a m k) + n := by simp [used, rItem]
    rw [this, ih]; push_cast; rw [Int.add_mul, Int.one_mul]
theorem rL_good {n a q life : Int} {m k : Nat} (hn : 1 ≤ n ∧ n ≤ 30000) (hk : k ≤ 16) (hq : 0 ≤ q ∧ q < 4611686018427387904) : Good ⟨q, life, rL n a m k⟩ := by
  have hx : ∀ x ∈ rL n a m k, ∃ j, x = rItem n a m j := fun x hx => by
    obtain ⟨j, _, rfl⟩ := List.mem_map.1 hx; exact ⟨j, rfl⟩
  refine ⟨by simpa [rL_length] using hk, fun x h => ?_, fun x h => ?_, hq⟩
  · obtain ⟨j, rfl⟩ := hx x h; exact hn
  · obtain ⟨j, rfl⟩ := hx x h; simp [rItem]; omega
theorem rL_zero (n : Int) (m m' k : Nat) : rL n 0 m k = rL n 0 m' k := by
  unfold rL; congr 1; funext j; simp [rItem]
/-- A tick, and then the naming of one. -/
theorem rL_tick {n a life q : Int} {m : Nat} (hm : m < 16) (h : a + 1 < life) (ha : 0 ≤ a) (h1 : 1 < life) : touch (keyOf m) (tickL ⟨q, life, rL n a m 16⟩) = rL n (a + 1) m 16 ∧ (tickL ⟨q, life, rL n a m 16⟩).length = 16 := by
  have e : tickL ⟨q, life, rL n a m 16⟩ = (rL n a m 16).map aged := by
    unfold tickL
    refine List.filter_eq_self.2 fun x hx => ?_
    obtain ⟨y, hy, rfl⟩ := List.mem_map.1 hx
    obtain ⟨j, _, rfl⟩ := List.mem_map.1 hy
    by_cases hj : j = m
    · simp [aged, rItem, old, hj]; omega
    · simp [aged, rItem, old, hj]; omega
  have hlen : ((rL n a m 16).map aged).length = 16 := by rw [List.length_map, rL_length]
  refine ⟨?_, by rw [e, hlen]⟩
  rw [e]
  have hg : ∀ j, j < 16 → ((rL n a m 16).map aged)[j]? = some (aged (rItem n a m j)) := fun j hj => by rw [List.getElem?_map, rL_get hj]; rfl
  have hp : posOf (keyOf m) ((rL n a m 16).map aged) = m := posOf_unique (hg m hm) rfl fun j y hj hy => by
    rw [hg j (by omega)] at hy
    injection hy with hy
    subst hy
    exact keyOf_ne (by omega) (by omega) (by omega)
  rw [touch_some (by rw [hp]; exact hg m hm), hp]
  apply List.ext_getElem?
  intro j
  by_cases hj : j < 16
  · rw [rL_get hj]
    by_cases hjm : m = j
    · subst hjm
      rw [List.getElem?_set_self (by rw [hlen]; exact hj)]
      simp [aged, rItem]
    · rw [List.getElem?_set_ne hjm, hg j hj]
      simp [aged, rItem, Ne.symm hjm]
  · rw [List.getElem?_eq_none (by rw [List.length_set, hlen]; omega), List.getElem?_eq_none (by rw [rL_length]; omega)]
/-- The last tick: one alone is left. -/
theorem rL_last {n life q : Int} {m : Nat} (hm : m < 16) (h1 : 1 < life) : tickL ⟨q, life, rL n (life - 1) m 16⟩ = [⟨keyOf m, n, [], false, 1⟩] := by
  have e : (rL n (life - 1) m 16).map aged = (List.range 16).map fun (j : Nat) => (⟨keyOf j, n, [], false, if j = m then 1 else life⟩ : Item) := by
    rw [rL, List.map_map]
    refine List.map_congr_left fun j _ => ?_
    simp only [Function.comp, aged, rItem]
    split <;> simp
  unfold tickL
  simp only
  rw [e, List.filter_map]
  have e2 : (List.range 16).filter ((fun x => !old life x) ∘ fun (j : Nat) => (⟨keyOf j, n, [], false, if j = m then 1 else life⟩ : Item)) = (List.range 16).filter fun j => decide (j = m) := by
    refine List.filter_congr fun j _ => ?_
    simp only [Function.comp, old]
    by_cases hj : j = m
    · simp [hj]; omega
    · simp [hj]
  rw [e2]
  have e3 : (List.range 16).filter (fun j => decide (j = m)) = [m] := by
    have h : m = 0 ∨ m = 1 ∨ m = 2 ∨ m = 3 ∨ m = 4 ∨ m = 5 ∨ m = 6 ∨ m = 7 ∨ m = 8 ∨ m = 9 ∨ m = 10 ∨ m = 11 ∨ m = 12 ∨ m = 13 ∨ m = 14 ∨ m = 15 := by omega
    rcases h with rfl | rfl | rfl | rfl | rfl | rfl | rfl | rfl | rfl | rfl | rfl | rfl | rfl | rfl | rfl | rfl <;> rfl
  rw [e3]
  simp
theorem rL_stat {n a life q : Int} {m : Nat} (hm : m < 16) (h : a + 1 < life) (ha : 0 ≤ a) (h1 : 1 < life) : statOf (keyOf m) (tickL ⟨q, life, rL n a m 16⟩) = (0, false, none) := by
  have e : tickL ⟨q, life, rL n a m 16⟩ = (rL n a m 16).map aged := by
    unfold tickL
    refine List.filter_eq_self.2 fun x hx => ?_
    obtain ⟨y, hy, rfl⟩ := List.mem_map.1 hx
    obtain ⟨j, _, rfl⟩ := List.mem_map.1 hy
    by_cases hj : j = m
    · simp [aged, rItem, old, hj]; omega
    · simp [aged, rItem, old, hj]; omega
  rw [e]
  have hg : ∀ j, j < 16 → ((rL n a m 16).map aged)[j]? = some (aged (rItem n a m j)) := fun j hj => by rw [List.getElem?_map, rL_get hj]; rfl
  have hp : posOf (keyOf m) ((rL n a m 16).map aged) = m := posOf_unique (hg m hm) rfl fun j y hj hy => by
    rw [hg j (by omega)] at hy
    injection hy with hy
    subst hy
    exact keyOf_ne (by omega) (by omega) (by omega)
  unfold statOf
  rw [hp, hg m hm]
  rfl
theorem rL_age {n a : Int} {m k : Nat} (ha : 0 ≤ a ∧ a < 1000000) : ∀ x ∈ rL n a m k, 0 ≤ x.age ∧ x.age < 1000000 := fun x hx => by
  obtain ⟨j, _, rfl⟩ := List.mem_map.1 hx
  simp only [rItem]
  split <;> omega
theorem rL_open {N L Q : Int} {M i : Nat} (hN : 10 ≤ N ∧ N ≤ 99) (hQ : Q = 16 * N) (hi : i < 16) : openE ⟨Q, L, rL N 0 M i⟩ (keyOf i) N = none ∧ openS ⟨Q, L, rL N 0 M i⟩ (keyOf i) N = ⟨Q, L, rL N 0 M (i + 1)⟩ := by
  have h1 : ¬ (N < 1 ∨ 30000 < N) := by omega
  have hp : posOf (keyOf i) (rL N 0 M i) = i := rL_none (by omega) (by omega)
  have h2 : (i : Int) * N ≤ 15 * N := Int.mul_le_mul_of_nonneg_right (by omega) (by omega)
  have h3 : ¬ Q - (i : Int) * N < N := by omega
  have e : rItem N 0 M i = newItem (keyOf i) N := by simp [rItem, newItem]
  constructor
  · simp only [openE, if_neg h1, hp, rL_length, Nat.lt_irrefl, if_false, rL_used, if_neg h3]
    rw [if_neg (by omega)]
  · simp only [openS, if_neg h1, hp, rL_length, Nat.lt_irrefl, if_false, rL_used, if_neg h3]
    rw [if_neg (by omega), rL_succ, e]
theorem rL_full {N L Q : Int} {M : Nat} : openE ⟨Q, L, rL N 0 M 16⟩ (keyOf 99) 1 = some 17 ∧ openS ⟨Q, L, rL N 0 M 16⟩ (keyOf 99) 1 = ⟨Q, L, rL N 0 M 16⟩ := by
  have hp : posOf (keyOf 99) (rL N 0 M 16) = 16 := rL_none (by omega) (by omega)
  constructor
  · simp [openE, hp, rL_length]
  · simp [openS, hp, rL_length]
theorem hash1_ne {a b : Int} (h : a ≠ b) : hash1 a ≠ hash1 b := fun he => h (by injection he)
theorem open1 (q l n : Int) (id : List Int) (hn : 1 ≤ n ∧ n ≤ 30000) (hq : n ≤ q) : openE ⟨q, l, []⟩ id n = none ∧ openS ⟨q, l, []⟩ id n = ⟨q, l, [newItem id n]⟩ := by
  have h1 : ¬ (n < 1 ∨ 30000 < n) := by omega
  constructor
  · simp [openE, posOf, used, h1]; omega
  · simp [openS, posOf, used, h1]; omega
theorem open2 {q l n m : Int} {i j : List Int} (hij : i ≠ j) (hn : 1 ≤ n ∧ n ≤ 30000) (hq : m + n ≤ q) : openE ⟨q, l, [newItem i m]⟩ j n = none ∧ openS ⟨q, l, [newItem i m]⟩ j n = ⟨q, l, [newItem i m, newItem j n]⟩ := by
  have h1 : ¬ (n < 1 ∨ 30000 < n) := by omega
  have hp : posOf j [newItem i m] = 1 := by simp [posOf, isId, newItem, hij, List.findIdx_cons]
  have hu : used [newItem i m] = m := by simp [used, newItem]
  have h3 : ¬ q - m < n := by omega
  constructor
  · simp [openE, hp, hu, h1, h3]
  · simp [openS, hp, hu, h1, h3]
theorem open3 {q l n m p : Int} {i j k : List Int} (hik : i ≠ k) (hjk : j ≠ k) (hn : 1 ≤ n ∧ n ≤ 30000) : (openE ⟨q, l, [newItem i m, newItem j p]⟩ k n = if q - (m + p) < n then some 6 else none) ∧ openS ⟨q, l, [newItem i m, newItem j p]⟩ k n = if q - (m + p) < n then ⟨q, l, [newItem i m, newItem j p]⟩ else ⟨q, l, [newItem i m, newItem j p, newItem k n]⟩ := by
  have h1 : ¬ (n < 1 ∨ 30000 < n) := by omega
  have hp : posOf k [newItem i m, newItem j p] = 2 := by simp [posOf, isId, newItem, hik, hjk, List.findIdx_cons]
  have hu : used [newItem i m, newItem j p] = m + p := by simp [used, newItem]
  constructor
  · simp [openE, hp, hu, h1]
  · simp [openS, hp, hu, h1]
theorem good3 {q l : Int} {xs : List Item} (h : xs.length ≤ 16) (hx : ∀ x ∈ xs, ∃ i n, x = newItem i n ∧ 1 ≤ n ∧ n ≤ 30000) (hq : 0 ≤ q ∧ q < 4611686018427387904) : Good ⟨q, l, xs⟩ :=
  ⟨h, fun x hm => by obtain ⟨i, n, rfl, h1⟩ := hx x hm; exact h1, fun x hm => by obtain ⟨i, n, rfl, h1⟩ := hx x hm; simp [newItem]; omega, hq⟩
/-- Two stores, apart. -/
def TwoS (w0 w : World) (B gs gt : Nat) (s t : StoreD) : Prop := ∃ Fs Ft, Sto w B Fs gs s ∧ Sto w B Ft gt t ∧ (∀ k, Fs k → ¬ Ft k) ∧ Below B w0 w
section
variable {w0 w : World} {B gs gt : Nat} {s t s' : StoreD}
theorem TwoS.below {w' : World} (h : TwoS w0 w B gs gt s t) (hb : Below w.heap.size w w') : TwoS w0 w' B gs gt s t := by
  obtain ⟨Fs, Ft, h1, h2, h3, h4⟩ := h
  exact ⟨Fs, Ft, h1.below hb, h2.below hb, h3, h4.trans (hb.mono h1.2.2)⟩
theorem TwoS.bel (h : TwoS w0 w B gs gt s t) : Below B w0 w := by obtain ⟨Fs, Ft, h1, h2, h3, h4⟩ := h; exact h4
theorem TwoS.left {f : FuncId} {args : Array Value} {R : Ending → Prop} (h : TwoS w0 w B gs gt s t)
    (k : ∀ F, Sto w B F gs s → Calls Tryd.prog f args w fun e w' => R e ∧ ∃ F', Sto w' B F' gs s' ∧ Sub F' F w ∧ Upd F w w' ∧ Below B w w') : Calls Tryd.prog f args w fun e w' => R e ∧ TwoS w0 w' B gs gt s' t := by
  obtain ⟨Fs, Ft, h1, h2, h3, h4⟩ := h
  refine (k Fs h1).mono fun e w' ⟨he, F', h5, h6, h7, h8⟩ => ⟨he, F', Ft, h5, h2.upd h7 (fun j hj hs => h3 j hs hj), fun j hj ht => ?_, h4.trans h8⟩
  rcases h6 j hj with h9 | h9
  · exact h3 j h9 ht
  · have := h2.lt j ht; omega
theorem TwoS.right {f : FuncId} {args : Array Value} {R : Ending → Prop} {t' : StoreD} (h : TwoS w0 w B gs gt s t)
    (k : ∀ F, Sto w B F gt t → Calls Tryd.prog f args w fun e w' => R e ∧ ∃ F', Sto w' B F' gt t' ∧ Sub F' F w ∧ Upd F w w' ∧ Below B w w') : Calls Tryd.prog f args w fun e w' => R e ∧ TwoS w0 w' B gs gt s t' := by
  obtain ⟨Fs, Ft, h1, h2, h3, h4⟩ := h
  refine (k Ft h2).mono fun e w' ⟨he, F', h5, h6, h7, h8⟩ => ⟨he, Fs, F', h1.upd h7 (fun j hj hs => h3 j hj hs), h5, fun j hj ht => ?_, h4.trans h8⟩
  rcases h6 j ht with h9 | h9
  · exact h3 j hj h9
  · have := h1.lt j hj; omega
theorem TwoS.openL {P : Nat → Addr} (id : List Int) (n : Int) {o : Option Nat} (h : TwoS w0 w B gs gt s t) (hE : ErrsAt w0 P B) (hG : Good s) (hid' : id.length = 32) (ho : openE s id n = o ∧ openS s id n = s') :
    Calls Tryd.prog 11 #[.pointer (some ⟨gs, 0, none⟩), .agg (ints .u8 id).toArray, .int .i64 n] w fun e w' => e = .returned (erV P o) ∧ TwoS w0 w' B gs gt s' t :=
  h.left fun F hs => by have := openX id n (hE.below h.bel) hs hG hid'; rw [ho.1, ho.2] at this; exact this
theorem TwoS.openR {P : Nat → Addr} {t' : StoreD} (id : List Int) (n : Int) {o : Option Nat} (h : TwoS w0 w B gs gt s t) (hE : ErrsAt w0 P B) (hG : Good t) (hid' : id.length = 32) (ho : openE t id n = o ∧ openS t id n = t') :
    Calls Tryd.prog 11 #[.pointer (some ⟨gt, 0, none⟩), .agg (ints .u8 id).toArray, .int .i64 n] w fun e w' => e = .returned (erV P o) ∧ TwoS w0 w' B gs gt s t' :=
  h.right fun F hs => by have := openX id n (hE.below h.bel) hs hG hid'; rw [ho.1, ho.2] at this; exact this
theorem TwoS.usedL (h : TwoS w0 w B gs gt s t) (hG : Good s) {u : Int} (hu : used s.l = u) : Calls Tryd.prog 14 #[.pointer (some ⟨gs, 0, none⟩)] w fun e w' => e = .returned (.int .i64 u) ∧ TwoS w0 w' B gs gt s t := by
  have h0 := h
  obtain ⟨Fs, Ft, h1, h2, h3, h4⟩ := h
  refine (usedX h1 hG).mono fun e w' ⟨he, hb⟩ => ⟨by rw [he, hu], h0.below hb⟩
theorem TwoS.usedR (h : TwoS w0 w B gs gt s t) (hG : Good t) {u : Int} (hu : used t.l = u) : Calls Tryd.prog 14 #[.pointer (some ⟨gt, 0, none⟩)] w fun e w' => e = .returned (.int .i64 u) ∧ TwoS w0 w' B gs gt s t := by
  have h0 := h
  obtain ⟨Fs, Ft, h1, h2, h3, h4⟩ := h
  refine (usedX h2 hG).mono fun e w' ⟨he, hb⟩ => ⟨by rw [he, hu], h0.below hb⟩
theorem TwoS.tickL (h : TwoS w0 w B gs gt s t) (hlen : s.l.length ≤ 1000000) (hage : ∀ x ∈ s.l, 0 ≤ x.age ∧ x.age < 1000000) {u : Int} {l : List Item} (hu : (s.l.length : Int) - (Go.Proofs.YtinpilfnnmkpoaaDoor.tickL s).length = u) (hl : Go.Proofs.YtinpilfnnmkpoaaDoor.tickL s = l) :
    Calls Tryd.prog 15 #[.pointer (some ⟨gs, 0, none⟩)] w fun e w' => e = .returned (.int .i64 u) ∧ TwoS w0 w' B gs gt { s with l := l } t :=
  h.left fun F hs => by have := tickX hs hlen hage; rw [hu, hl] at this; exact this
theorem TwoS.statL {P : Nat → Addr} (id : List Int) (h : TwoS w0 w B gs gt s t) (hE : ErrsAt w0 P B) (hid' : id.length = 32) (hlen : s.l.length ≤ 1000000) {l : List Item} {a : Int} {d : Bool} {o : Option Nat} (hs : statOf id s.l = (a, d, o)) (hl : touch id s.l = l) :
    Calls Tryd.prog 16 #[.pointer (some ⟨gs, 0, none⟩), .agg (ints .u8 id).toArray] w fun e w' => e = .returned (.tuple #[.int .i64 a, .bool d, erV P o]) ∧ TwoS w0 w' B gs gt { s with l := l } t :=
  h.left fun F hst => by have := statX id (hE.below h.bel) hst hid' hlen; rw [hs, hl] at this; exact this
end
set_option maxHeartbeats 4000000 in
set_option maxRecDepth 100000 in
theorem blobRoom_calls (n0 life0 named0 : Int) {w : World} {P : Nat → Addr} (hE : Errs w P) :
    Calls Tryd.prog 3 #[.int .i64 n0, .int .i64 life0, .int .i64 named0] w fun e w' => e = .returned (.bool true) ∧ Below w.heap.size w w' := by
  have hEA := ErrsAt.of hE
  have hneq := nil_neqK
  have heql := nil_eqlK
  obtain ⟨N0, hN0, hN0b⟩ : ∃ N0, Hd (n0 % 90 = N0) ∧ 0 ≤ N0 ∧ N0 < 90 := ⟨_, hid rfl, by omega, by omega⟩
  obtain ⟨L0, hL0, hL0b⟩ : ∃ L0, Hd (life0 % 10 = L0) ∧ 0 ≤ L0 ∧ L0 < 10 := ⟨_, hid rfl, by omega, by omega⟩
  obtain ⟨M, hM, hMb⟩ : ∃ M : Nat, Hd (named0 % 16 = (M : Int)) ∧ M < 16 := ⟨(named0 % 16).toNat, hid (by omega), by omega⟩
  obtain ⟨N, hN⟩ : ∃ N, Hd (N0 + 10 = N) := ⟨_, ⟨rfl⟩⟩
  obtain ⟨L, hL⟩ : ∃ L, Hd (L0 + 2 = L) := ⟨_, ⟨rfl⟩⟩
  obtain ⟨Q, hQ⟩ : ∃ Q, Hd (16 * N = Q) := ⟨_, ⟨rfl⟩⟩
  obtain ⟨T, hT⟩ : ∃ T, Hd (2 * N + 1 = T) := ⟨_, ⟨rfl⟩⟩
  have hNb : 10 ≤ N ∧ N ≤ 99 := by have := hN.out; omega
  have hLb : 2 ≤ L ∧ L ≤ 11 := by have := hL.out; omega
  have hQb : Hd (0 ≤ Q ∧ Q < 4611686018427387904) := hid (by have := hQ.out; omega)
  have hTb : Hd (0 ≤ T ∧ T < 4611686018427387904) := hid (by have := hT.out; omega)
  have hmax : max L 1 = L := by omega
  go_enter Tryd.func3, Tryd.ntmps3
  go_wp2_with (first
    | (go_at_call 8; refine (first20_calls hE).mono ?_; rintro e w1 ⟨rfl, hB1⟩)
    | (go_at_call 9; refine (number_calls _ _ _ (by omega) (by omega)).mono ?_; rintro e wz ⟨rfl, rfl⟩; first | rw [hN0.out] | rw [hL0.out])
    | fail)
  rw [hN.out, hL.out, hQ.out]
  refine (newX Q L wz w.heap.size hB1.size).mono ?_
  rintro e w3 ⟨gs, Fs, rfl, hsS, hFs, hB3⟩
  rw [hmax] at hsS
  go_wp2_with fail
  rw [hT.out]
  refine (newX T L w3 w.heap.size (Nat.le_trans hB1.size hB3.size)).mono ?_
  rintro e w4 ⟨gt, Ft, rfl, hsT, hFt, hB4⟩
  rw [hmax] at hsT
  have hTW : TwoS w w4 w.heap.size gs gt ⟨Q, L, rL N 0 M 0⟩ ⟨T, L, []⟩ := ⟨Fs, Ft, hsS.below hB4, hsT, fun k h1 h2 => by have := hsS.lt k h1; have := hFt k h2; omega, (hB1.trans (hB3.mono hB1.size)).trans (hB4.mono (Nat.le_trans hB1.size hB3.size))⟩
  clear hsS hsT hB1 hB3 hB4 hFs hFt
  go_wp2_with fail
  go_loopg [10] 17 (fun kq v10 wr => ∃ i : Nat, i ≤ 16 ∧ v10 = .int .i64 i ∧ Hd (kq + i = 17) ∧ TwoS w wr w.heap.size gs gt ⟨Q, L, rL N 0 M i⟩ ⟨T, L, []⟩)
  case atStart => exact ⟨0, by omega, rfl, hid (by omega), hTW⟩
  case round =>
    clear hTW
    obtain ⟨i, hi, rfl, hq, hTW⟩ := hrel
    by_cases hlt : i < 16
    · have hlt2 : (i : Int) < 16 := by omega
      go_wp2_with (first
        | (go_at_call 12; refine (keyC_calls _ _).mono ?_; rintro e w5 ⟨rfl, hB5⟩; replace hTW := hTW.below hB5)
        | fail)
      refine (hTW.openL (keyOf i) N hEA (rL_good (by omega) (by omega) hQb.out) (keyOf_length _) (rL_open hNb hQ.out.symm hlt)).mono ?_
      rintro e w6 ⟨rfl, hTW⟩
      simp only [erV]
      go_wp2_with fail
      go_roundg (gk - 1)
      case measure => have := hq.out; omega
      case rel => exact ⟨i + 1, by omega, by go_num, hid (by have := hq.out; omega), hTW⟩
    · obtain rfl : i = 16 := by omega
      have hg16 : Good ⟨Q, L, rL N 0 M 16⟩ := rL_good (by omega) (by omega) hQb.out
      go_wp2_with (first
        | (go_at_call 12; refine (keyC_calls _ _).mono ?_; rintro e w5 ⟨rfl, hB5⟩; replace hTW := hTW.below hB5)
        | fail)
      refine (hTW.openL (keyOf 99) 1 hEA hg16 (keyOf_length _) rL_full).mono ?_
      rintro e w6 ⟨rfl, hTW⟩
      simp only [erV]
      obtain ⟨H1, hH1⟩ : ∃ H1, Hd (hash1 1 = H1) := ⟨_, ⟨rfl⟩⟩
      obtain ⟨H2, hH2⟩ : ∃ H2, Hd (hash1 2 = H2) := ⟨_, ⟨rfl⟩⟩
      obtain ⟨H3, hH3⟩ : ∃ H3, Hd (hash1 3 = H3) := ⟨_, ⟨rfl⟩⟩
      have hl1 : H1.length = 32 := by rw [← hH1.out]; exact hash1_length 1
      have hl2 : H2.length = 32 := by rw [← hH2.out]; exact hash1_length 2
      have hl3 : H3.length = 32 := by rw [← hH3.out]; exact hash1_length 3
      have h12 : Hd (H1 ≠ H2) := hid (by rw [← hH1.out, ← hH2.out]; exact hash1_ne (by omega))
      have h13 : Hd (H1 ≠ H3) := hid (by rw [← hH1.out, ← hH3.out]; exact hash1_ne (by omega))
      have h23 : Hd (H2 ≠ H3) := hid (by rw [← hH2.out, ← hH3.out]; exact hash1_ne (by omega))
      go_wp2_with (first
        | (refine build_to rfl 30 _ rfl (ints .u8 (hash1 1)).toArray (by rw [Array.toList_map]; exact builtHash1 1) ?_; rw [hH1.out])
        | fail)
      try rw [hN.out]
      refine (hTW.openR H1 N hEA (good3 (by simp) (fun x hx => by simp at hx) hTb.out) hl1 (open1 T L N H1 (by omega) (by have := hT.out; omega))).mono ?_
      rintro e w7 ⟨rfl, hTW⟩
      simp only [erV]
      go_wp2_with (first
        | (refine build_to rfl 30 _ rfl (ints .u8 (hash1 2)).toArray (by rw [Array.toList_map]; exact builtHash1 2) ?_; rw [hH2.out])
        | fail)
      try rw [hN.out]
      refine (hTW.openR H2 N hEA (good3 (by simp) (fun x hx => by simp at hx; exact ⟨_, _, hx, by omega⟩) hTb.out) hl2 (open2 h12.out (by omega) (by have := hT.out; omega))).mono ?_
      rintro e w8 ⟨rfl, hTW⟩
      simp only [erV]
      have hgt : Good ⟨T, L, [newItem H1 N, newItem H2 N]⟩ := good3 (by simp) (fun x hx => by simp at hx; rcases hx with hx | hx <;> exact ⟨_, _, hx, by omega⟩) hTb.out
      go_wp2_with (first
        | (refine build_to rfl 30 _ rfl (ints .u8 (hash1 3)).toArray (by rw [Array.toList_map]; exact builtHash1 3) ?_; rw [hH3.out])
        | fail)
      have ho3 := open3 (q := T) (l := L) (n := 2) (m := N) (p := N) h13.out h23.out (by omega)
      rw [if_pos (by have := hT.out; omega)] at ho3
      rw [if_pos (by have := hT.out; omega)] at ho3
      refine (hTW.openR H3 2 hEA hgt hl3 ho3).mono ?_
      rintro e w9 ⟨rfl, hTW⟩
      simp only [erV]
      go_wp2_with (first
        | (refine build_to rfl 30 _ rfl (ints .u8 (hash1 3)).toArray (by rw [Array.toList_map]; exact builtHash1 3) ?_; rw [hH3.out])
        | fail)
      have ho4 := open3 (q := T) (l := L) (n := 1) (m := N) (p := N) h13.out h23.out (by omega)
      rw [if_neg (by have := hT.out; omega)] at ho4
      rw [if_neg (by have := hT.out; omega)] at ho4
      refine (hTW.openR H3 1 hEA hgt hl3 ho4).mono ?_
      rintro e w10 ⟨rfl, hTW⟩
      simp only [erV]
      go_wp2_with fail
      refine (is_err_calls 118 (hEA.below hTW.bel).errs 17 (by omega)).mono ?_
      rintro e w11 ⟨rfl, hB11⟩
      replace hTW := hTW.below hB11
      rw [show ((101 : Int) + ((17 : Nat) : Int) == 118) = true by decide]
      go_wp2_with fail
      refine (is_err_calls 107 (hEA.below hTW.bel).errs 6 (by omega)).mono ?_
      rintro e w12 ⟨rfl, hB12⟩
      replace hTW := hTW.below hB12
      rw [show ((101 : Int) + ((6 : Nat) : Int) == 107) = true by decide]
      go_wp2_with fail
      refine (hTW.usedL (u := 16 * N) hg16 (by simp only [rL_used]; rfl)).mono ?_
      rintro e w13 ⟨rfl, hTW⟩
      go_wp2_with fail
      have hgt3 : Good ⟨T, L, [newItem H1 N, newItem H2 N, newItem H3 1]⟩ := good3 (by simp) (fun x hx => by simp at hx; rcases hx with hx | hx | hx <;> exact ⟨_, _, hx, by omega⟩) hTb.out
      refine (hTW.usedR (u := 2 * N + 1) hgt3 (by simp [used, newItem]; omega)).mono ?_
      rintro e w14 ⟨rfl, hTW⟩
      go_wp2_with (first
        | (go_at_call 9; refine (number_calls _ _ _ (by omega) (by omega)).mono ?_; rintro e wz2 ⟨rfl, rfl⟩; rw [hM.out])
        | fail)
      obtain ⟨tt, htt⟩ : ∃ tt : StoreD, tt = ⟨T, L, [newItem H1 N, newItem H2 N, newItem H3 1]⟩ := ⟨_, rfl⟩
      rw [← htt] at hTW
      clear htt hgt hgt3 ho3 ho4 hg16
      go_loopg [16] 13 (fun kq v16 wr => ∃ a : Nat, (a : Int) + 1 ≤ L ∧ v16 = .int .i64 ((a : Int) + 1) ∧ Hd (kq + a = 13) ∧ TwoS w wr w.heap.size gs gt ⟨Q, L, rL N a M 16⟩ tt)
      case atStart => exact ⟨0, by omega, rfl, hid (by omega), by simpa using hTW⟩
      case round =>
        clear hTW
        obtain ⟨a, ha, rfl, hq, hTW⟩ := hrel
        by_cases hlt : (a : Int) + 1 < L
        · obtain ⟨hst1, hst2⟩ := rL_tick (n := N) (q := Q) hMb hlt (by omega) (by omega)
          have hst3 := rL_stat (n := N) (q := Q) hMb hlt (by omega) (by omega)
          obtain ⟨TL, hTL⟩ : ∃ TL, Hd (tickL ⟨Q, L, rL N a M 16⟩ = TL) := ⟨_, ⟨rfl⟩⟩
          rw [hTL.out] at hst1 hst2 hst3
          have HS1 := hid hst1
          have HS2 := hid hst2
          have HS3 := hid hst3
          have ha2 : IntKind.i64.wrap ((a : Int) + 1 + 1) = (a : Int) + 1 + 1 := IntWalk.i64_in _ (by omega)
          clear hst1 hst2 hst3
          go_wp2_with fail
          refine (hTW.tickL (u := 0) (by simp only [rL_length]; omega) (rL_age (by omega)) (by rw [hTL.out]; simp only [rL_length, HS2.out]; rfl) hTL.out).mono ?_
          rintro e w15 ⟨rfl, hTW⟩
          go_wp2_with (first
            | (go_at_call 12; refine (keyC_calls _ _).mono ?_; rintro e w16 ⟨rfl, hB16⟩; replace hTW := hTW.below hB16)
            | fail)
          refine (hTW.statL (keyOf M) hEA (keyOf_length _) (by simp only [HS2.out]; omega) HS3.out HS1.out).mono ?_
          rintro e w17 ⟨rfl, hTW⟩
          simp only [erV]
          go_wp2_with fail
          go_roundg (gk - 1)
          case measure => have := hq.out; omega
          case rel => exact ⟨a + 1, by omega, by go_num, hid (by have := hq.out; omega), by simpa using hTW⟩
        · have haL : (a : Int) = L - 1 := by omega
          have hlast := rL_last (n := N) (q := Q) (life := L) hMb (by omega)
          rw [← haL] at hlast
          have HLAST := hid hlast
          have hlt2 : ¬ (a : Int) + 1 < L := hlt
          clear hlast
          go_wp2_with fail
          refine (hTW.tickL (u := 15) (by simp only [rL_length]; omega) (rL_age (by omega)) (by rw [HLAST.out]; simp only [rL_length]; rfl) HLAST.out).mono ?_
          rintro e w15 ⟨rfl, hTW⟩
          go_wp2_with fail
          obtain ⟨Fs, Ft, hsS, hsT, hdis, hbel⟩ := id hTW
          refine (allX hsS (by simp)).mono ?_
          rintro e w16 ⟨v21, rfl, hoa, hob, hB16⟩
          obtain ⟨A21, c21, hv21, hc21, hcell⟩ := hoa.parts
          obtain ⟨g21, hA21, hcl⟩ := hcell 0 (ints .u8 (keyOf M)) rfl
          subst hA21
          have hv1 : v21 = .slice (some ⟨g21, 0, none⟩) 1 c21 := hv21
          subst hv1
          have HCL := hid (fun (j : Nat) (u : Value) (hu : (ints .u8 (keyOf M))[j]? = some u) => by have := hcl j u hu; rwa [Nat.zero_mul, Nat.zero_add] at this)
          replace hTW := (hTW.below hB16).below (below_drewN (Below.refl _ _) 1)
          clear hsS hsT hoa hob hcell hcl hv21
          have hg1 : Good ⟨Q, L, [⟨keyOf M, N, [], false, 1⟩]⟩ := ⟨by simp, fun x hx => by simp at hx; subst hx; exact ⟨by simp only; omega, by simp only; omega⟩, fun x hx => by simp at hx; subst hx; simp only [List.length_nil]; omega, hQb.out⟩
          have hol : openE ⟨Q, L, [⟨keyOf M, N, [], false, 1⟩]⟩ (keyOf 99) 1 = none ∧ openS ⟨Q, L, [⟨keyOf M, N, [], false, 1⟩]⟩ (keyOf 99) 1 = ⟨Q, L, [⟨keyOf M, N, [], false, 1⟩, newItem (keyOf 99) 1]⟩ := by
            have hne : keyOf M ≠ keyOf 99 := keyOf_ne (by omega) (by omega) (by omega)
            have hp : posOf (keyOf 99) [⟨keyOf M, N, [], false, 1⟩] = 1 := by simp [posOf, isId, hne, List.findIdx_cons]
            have hu : used [⟨keyOf M, N, [], false, 1⟩] = N := by simp [used]
            have h3 : ¬ Q - N < 1 := by have := hQ.out; omega
            constructor
            · simp [openE, hp, hu, h3]
            · simp [openS, hp, hu, h3]
          have hE1 := fun w => run_equalIn_ints (P := Tryd.prog) w 9998 30 5 32 .u8 arrHash undU8B sizeU8B (keyOf M) (keyOf M) (keyOf_length _) (keyOf_length _)
          go_wp2_with fail
          have hT := (show ∀ (j : Nat) (u : Value), (ints .u8 (keyOf M))[j]? = some u → w16.drew.cell? ⟨g21, j, none⟩ = some u from HCL.out)
          refine wp_region_T (T := fun w' => ∀ (j : Nat) (u : Value), (ints .u8 (keyOf M))[j]? = some u → w'.cell? ⟨g21, j, none⟩ = some u) (by kernel_rfl) (by kernel_rfl) hT ?_
          show wpT _ _ _ _ [0, 1, 2, 3, 4, 5, 6, 7, 8, 9, 10, 11, 12, 13, 14, 15, 16, 17, 18, 19, 20, 21, 22, 23, 24, 25, 26, 27, 28, 29, 30] _ _
          apply wpT_read (i := 0) rfl hT rfl -- Op.move t7
          · intro w' hT'
            simp only [List.getElem_toArray, List.getElem_cons_zero, List.getElem_cons_succ]
            go_wp2_with fail
            first | exact ⟨rfl, rfl, rfl⟩ | rfl
          apply wpT_read (i := 1) rfl hT rfl -- Op.move t132
          · intro w' hT'
            simp only [List.getElem_toArray, List.getElem_cons_zero, List.getElem_cons_succ]
            go_wp2_with fail
            first | exact ⟨rfl, rfl, rfl⟩ | rfl
          apply wpT_read (i := 2) rfl hT rfl -- Op.move t20
          · intro w' hT'
            simp only [List.getElem_toArray, List.getElem_cons_zero, List.getElem_cons_succ]
            go_wp2_with fail
            first | exact ⟨rfl, rfl, rfl⟩ | rfl
          apply wpT_read (i := 3) rfl hT rfl -- Op.binOp BinOp.eql 3 t134 (const (15:i64)) 3
          · intro w' hT'
            simp only [List.getElem_toArray, List.getElem_cons_zero, List.getElem_cons_succ]
            go_wp2_with (first
              | (refine load_in rfl 30 _ rfl g21 0 rfl (ints .u8 (keyOf M)) (fun j v hv => by rw [Nat.zero_add]; exact hT' j v hv) 32 5 arrHash (by simp [keyOf_length]) infoHash ?_)
              | fail)
            first | exact ⟨rfl, rfl, rfl⟩ | rfl
          apply wpT_read (i := 4) rfl hT rfl -- Op.pick t133 t135 (const (Value.bool false))
          · intro w' hT'
            simp only [List.getElem_toArray, List.getElem_cons_zero, List.getElem_cons_succ]
            go_wp2_with fail
            first | exact ⟨rfl, rfl, rfl⟩ | rfl
          apply wpT_read (i := 5) rfl hT rfl -- Op.move t136
          · intro w' hT'
            simp only [List.getElem_toArray, List.getElem_cons_zero, List.getElem_cons_succ]
            go_wp2_with fail
            first | exact ⟨rfl, rfl, rfl⟩ | rfl
          apply wpT_read (i := 6) rfl hT rfl -- Op.move t21
          · intro w' hT'
            simp only [List.getElem_toArray, List.getElem_cons_zero, List.getElem_cons_succ]
            go_wp2_with fail
            first | exact ⟨rfl, rfl, rfl⟩ | rfl
          apply wpT_read (i := 7) rfl hT rfl -- Op.call { builtin len, args := #[t138], argTypes := #[37] }
          · intro w' hT'
            simp only [List.getElem_toArray, List.getElem_cons_zero, List.getElem_cons_succ]
            go_wp2_with fail
            first | exact ⟨rfl, rfl, rfl⟩ | rfl
          apply wpT_read (i := 8) rfl hT rfl -- Op.binOp BinOp.eql 3 t139 (const (1:i64)) 3
          · intro w' hT'
            simp only [List.getElem_toArray, List.getElem_cons_zero, List.getElem_cons_succ]
            go_wp2_with (first
              | (refine load_in rfl 30 _ rfl g21 0 rfl (ints .u8 (keyOf M)) (fun j v hv => by rw [Nat.zero_add]; exact hT' j v hv) 32 5 arrHash (by simp [keyOf_length]) infoHash ?_)
              | fail)
            first | exact ⟨rfl, rfl, rfl⟩ | rfl
          apply wpT_read (i := 9) rfl hT rfl -- Op.pick t137 t140 (const (Value.bool false))
          · intro w' hT'
            simp only [List.getElem_toArray, List.getElem_cons_zero, List.getElem_cons_succ]
            go_wp2_with fail
            first | exact ⟨rfl, rfl, rfl⟩ | rfl
          apply wpT_read (i := 10) rfl hT rfl -- Op.move t141
          · intro w' hT'
            simp only [List.getElem_toArray, List.getElem_cons_zero, List.getElem_cons_succ]
            go_wp2_with fail
            first | exact ⟨rfl, rfl, rfl⟩ | rfl
          apply wpT_read (i := 11) rfl hT rfl -- Op.move t21
          · intro w' hT'
            simp only [List.getElem_toArray, List.getElem_cons_zero, List.getElem_cons_succ]
            go_wp2_with fail
            first | exact ⟨rfl, rfl, rfl⟩ | rfl
          apply wpT_read (i := 12) rfl hT rfl -- Op.indexAddr 37 t143 (const (0:i64))
          · intro w' hT'
            simp only [List.getElem_toArray, List.getElem_cons_zero, List.getElem_cons_succ]
            go_wp2_with fail
            first | exact ⟨rfl, rfl, rfl⟩ | rfl
          apply wpT_read (i := 13) rfl hT rfl -- Op.load 30 t144
          · intro w' hT'
            simp only [List.getElem_toArray, List.getElem_cons_zero, List.getElem_cons_succ]
            go_wp2_with (first
              | (refine load_in rfl 30 _ rfl g21 0 rfl (ints .u8 (keyOf M)) (fun j v hv => by rw [Nat.zero_add]; exact hT' j v hv) 32 5 arrHash (by simp [keyOf_length]) infoHash ?_)
              | fail)
            first | exact ⟨rfl, rfl, rfl⟩ | rfl
          apply wpT_read (i := 14) rfl hT rfl -- Op.move t2
          · intro w' hT'
            simp only [List.getElem_toArray, List.getElem_cons_zero, List.getElem_cons_succ]
            go_wp2_with fail
            first | exact ⟨rfl, rfl, rfl⟩ | rfl
          refine wpT_act (i := 15) rfl rfl ?_ -- Op.call { value (Operand.func 12), args := #[t146], argTypes := #[3]
          simp only [List.getElem_toArray, List.getElem_cons_zero, List.getElem_cons_succ]
          go_wp2_with (first
            | (go_at_call 12; refine (keyC_calls _ _).mono ?_; rintro e w17 ⟨rfl, hB17⟩)
            | fail)
          replace hTW := hTW.below hB17
          have hT : ∀ (j : Nat) (u : Value), (ints .u8 (keyOf M))[j]? = some u → w17.cell? ⟨g21, j, none⟩ = some u := fun j u hu => (hB17.cell (lt_of_cell (hT j u hu))).trans (hT j u hu)
          first | refine ⟨rfl, rfl, hT, ?_⟩ | (show _ ∧ _; refine ⟨hT, ?_⟩) | skip
          apply wpT_read (i := 16) rfl hT rfl -- Op.binOp BinOp.eql 30 t145 t147 30
          · intro w' hT'
            simp only [List.getElem_toArray, List.getElem_cons_zero, List.getElem_cons_succ]
            go_wp2_with (first
              | (refine load_in rfl 30 _ rfl g21 0 rfl (ints .u8 (keyOf M)) (fun j v hv => by rw [Nat.zero_add]; exact hT' j v hv) 32 5 arrHash (by simp [keyOf_length]) infoHash ?_)
              | fail)
            first | exact ⟨rfl, rfl, rfl⟩ | rfl
          apply wpT_read (i := 17) rfl hT rfl -- Op.pick t142 t148 (const (Value.bool false))
          · intro w' hT'
            simp only [List.getElem_toArray, List.getElem_cons_zero, List.getElem_cons_succ]
            go_wp2_with fail
            first | exact ⟨rfl, rfl, rfl⟩ | rfl
          apply wpT_read (i := 18) rfl hT rfl -- Op.move t149
          · intro w' hT'
            simp only [List.getElem_toArray, List.getElem_cons_zero, List.getElem_cons_succ]
            go_wp2_with fail
            first | exact ⟨rfl, rfl, rfl⟩ | rfl
          apply wpT_read (i := 19) rfl hT rfl -- Op.move t8
          · intro w' hT'
            simp only [List.getElem_toArray, List.getElem_cons_zero, List.getElem_cons_succ]
            go_wp2_with fail
            first | exact ⟨rfl, rfl, rfl⟩ | rfl
          refine wpT_act (i := 20) rfl rfl ?_ -- Op.call { value (Operand.func 14), args := #[t151], argTypes := #[24
          simp only [List.getElem_toArray, List.getElem_cons_zero, List.getElem_cons_succ]
          go_wp2_with (first
            | (obtain ⟨Fs2, Ft2, hsS2, hsT2, hdis2, hbel2⟩ := id hTW; go_at_call 14; refine (usedX hsS2 hg1).mono ?_; rintro e w18 ⟨rfl, hB18⟩; rw [show used [(⟨keyOf M, N, [], false, 1⟩ : Item)] = N by simp [used]])
            | fail)
          replace hTW := hTW.below hB18
          have hT : ∀ (j : Nat) (u : Value), (ints .u8 (keyOf M))[j]? = some u → w18.cell? ⟨g21, j, none⟩ = some u := fun j u hu => (hB18.cell (lt_of_cell (hT j u hu))).trans (hT j u hu)
          first | refine ⟨rfl, rfl, hT, ?_⟩ | (show _ ∧ _; refine ⟨hT, ?_⟩) | skip
          apply wpT_read (i := 21) rfl hT rfl -- Op.move t0
          · intro w' hT'
            simp only [List.getElem_toArray, List.getElem_cons_zero, List.getElem_cons_succ]
            go_wp2_with fail
            first | exact ⟨rfl, rfl, rfl⟩ | rfl
          apply wpT_read (i := 22) rfl hT rfl -- Op.binOp BinOp.eql 3 t152 t153 3
          · intro w' hT'
            simp only [List.getElem_toArray, List.getElem_cons_zero, List.getElem_cons_succ]
            go_wp2_with (first
              | (refine load_in rfl 30 _ rfl g21 0 rfl (ints .u8 (keyOf M)) (fun j v hv => by rw [Nat.zero_add]; exact hT' j v hv) 32 5 arrHash (by simp [keyOf_length]) infoHash ?_)
              | fail)
            first | exact ⟨rfl, rfl, rfl⟩ | rfl
          apply wpT_read (i := 23) rfl hT rfl -- Op.pick t150 t154 (const (Value.bool false))
          · intro w' hT'
            simp only [List.getElem_toArray, List.getElem_cons_zero, List.getElem_cons_succ]
            go_wp2_with fail
            first | exact ⟨rfl, rfl, rfl⟩ | rfl
          apply wpT_read (i := 24) rfl hT rfl -- Op.move t155
          · intro w' hT'
            simp only [List.getElem_toArray, List.getElem_cons_zero, List.getElem_cons_succ]
            go_wp2_with fail
            first | exact ⟨rfl, rfl, rfl⟩ | rfl
          apply wpT_read (i := 25) rfl hT rfl -- Op.move t8
          · intro w' hT'
            simp only [List.getElem_toArray, List.getElem_cons_zero, List.getElem_cons_succ]
            go_wp2_with fail
            first | exact ⟨rfl, rfl, rfl⟩ | rfl
          refine wpT_act (i := 26) rfl rfl ?_ -- Op.call { value (Operand.func 12), args := #[const (99:i64)], argTyp
          simp only [List.getElem_toArray, List.getElem_cons_zero, List.getElem_cons_succ]
          go_wp2_with (first
            | (go_at_call 12; refine (keyC_calls _ _).mono ?_; rintro e w19 ⟨rfl, hB19⟩)
            | fail)
          replace hTW := hTW.below hB19
          have hT : ∀ (j : Nat) (u : Value), (ints .u8 (keyOf M))[j]? = some u → w19.cell? ⟨g21, j, none⟩ = some u := fun j u hu => (hB19.cell (lt_of_cell (hT j u hu))).trans (hT j u hu)
          first | refine ⟨rfl, rfl, hT, ?_⟩ | (show _ ∧ _; refine ⟨hT, ?_⟩) | skip
          refine wpT_tot (fun w' => True) (i := 27) rfl rfl (by kernel_rfl) ?_ -- Op.call { value (Operand.func 11), args := #[t157, t158, const (1:i6
          simp only [List.getElem_toArray, List.getElem_cons_zero, List.getElem_cons_succ]
          go_wp2_with (first
            | (go_at_call 11; refine (hTW.openL (keyOf 99) 1 hEA hg1 (keyOf_length _) hol).mono ?_; rintro e w20 ⟨rfl, hTW⟩; simp only [erV])
            | fail)
          have hT : True := trivial
          first | refine ⟨rfl, rfl, hT, ?_⟩ | (show _ ∧ _; refine ⟨hT, ?_⟩) | skip
          apply wpT_read (i := 28) rfl hT rfl -- Op.binOp BinOp.eql 27 t159 (const Value.nilIface) 27
          · intro w' hT'
            simp only [List.getElem_toArray, List.getElem_cons_zero, List.getElem_cons_succ]
            go_wp2_with (first
              | (refine load_in rfl 30 _ rfl g21 0 rfl (ints .u8 (keyOf M)) (fun j v hv => by rw [Nat.zero_add]; exact hT' j v hv) 32 5 arrHash (by simp [keyOf_length]) infoHash ?_)
              | fail)
            first | exact ⟨rfl, rfl, rfl⟩ | rfl
          apply wpT_read (i := 29) rfl hT rfl -- Op.pick t156 t160 (const (Value.bool false))
          · intro w' hT'
            simp only [List.getElem_toArray, List.getElem_cons_zero, List.getElem_cons_succ]
            go_wp2_with fail
            first | exact ⟨rfl, rfl, rfl⟩ | rfl
          apply wpT_read (i := 30) rfl hT rfl -- Op.assign t161
          · intro w' hT'
            simp only [List.getElem_toArray, List.getElem_cons_zero, List.getElem_cons_succ]
            go_wp2_with fail
            first | exact ⟨rfl, rfl, rfl⟩ | rfl
          refine wpT_end ?_
          try dsimp only

          go_wp2_with fail
          go_ret
          exact ⟨rfl, hTW.bel⟩
end Go.Proofs.YtinpilfnnmkpoaaDoor
/- Put and Commit as the laws see them. -/
namespace Go.Proofs.YtinpilfnnmkpoaaDoor
open Go.RowKit Go.Cour
section
variable {w : World} {P : Nat → Addr} {B : Nat} {F : Nat → Prop} {gs : Nat} {st : StoreD}
theorem putX (id : List Int) (off : Int) (bs : List Int) (Ab : Option Addr) (q cb : Nat) (hE : ErrsAt w P B) (h : Sto w B F gs st) (hG : Good st) (hid' : id.length = 32)
    (ho : -9223372036854775808 ≤ off ∧ off < 9223372036854775808) (hq : bs.length = q) (hq2 : q ≤ 1000000) (hqc : q ≤ cb) (hAb : Ab = none → cb = 0) (hrd : Rd w Ab .u8 bs) (hsep : ∀ a, Ab = some a → bs ≠ [] → ¬ F a.block) :
    Calls Tryd.prog 19 #[.pointer (some ⟨gs, 0, none⟩), .agg (ints .u8 id).toArray, .int .i64 off, .slice Ab q cb] w fun e w' => e = .returned (.tuple #[.int .i64 (putOf id off bs st.l).1, erV P (putOf id off bs st.l).2]) ∧ ∃ F', Sto w' B F' gs { st with l := putL id off bs st.l } ∧ Sub F' F w ∧ Upd F w w' ∧ Below B w w' := by
  have h0 := h
  obtain ⟨⟨v, vs, F2, h1⟩, h2, h3⟩ := h
  exact (put_calls id off bs Ab q cb hE h3 h2 h1 hG hid' ho hq hq2 hqc hAb hrd hsep).mono fun e w' ⟨he, hb⟩ => ⟨he, hb.sto h0⟩
set_option maxHeartbeats 1000000 in
set_option maxRecDepth 100000 in
/-- A blob that is none is not committed. -/
theorem commit_none (id : List Int) (hE : ErrsAt w P B) (h : Sto w B F gs st) (hid' : id.length = 32) (hlen : st.l.length ≤ 1000000) (hk : ¬ posOf id st.l < st.l.length) :
    Calls Tryd.prog 21 #[.pointer (some ⟨gs, 0, none⟩), .agg (ints .u8 id).toArray] w fun e w' => e = .returned (erV P (some 13)) ∧ ∃ F', Sto w' B F' gs st ∧ Sub F' F w ∧ Upd F w w' ∧ Below B w w' := by
  have h0 := hid h
  obtain ⟨⟨v, vs, F2, h1⟩, hF, hBw⟩ := h
  have HI := hid hid'
  have H := hid h1
  have HLEN := hid hlen
  have HT := hid (touch_none (id := id) (l := st.l) hk)
  have hsl := h1.star.length
  have hr := hid (show vs.getD (posOf id st.l) (.pointer none) = .pointer none by rw [List.getD_eq_getElem?_getD, List.getElem?_eq_none (by omega)]; rfl)
  clear hk hsl h1 hlen hid'
  go_enter Tryd.func21, Tryd.ntmps21
  go_wp2_with (first
    | (refine box_blk rfl 30 _ rfl _ rfl (ints .u8 id) rfl ?_; intro gb w1 hgb hbb hB1 hs1
       clear hgb hs1)
    | (refine load_blk rfl 30 _ rfl gb rfl 30 _ hbb 32 5 arrHash (by simp [ints, HI.out]) infoHash ?_)
    | (go_at_call 27; refine (named_calls id (H.out.below hB1) HI.out HLEN.out).mono ?_
       rintro e w2 ⟨he, ⟨F', F2', hst, hsub⟩, hup⟩
       rw [hr.out] at he
       subst he
       rw [HT.out] at hst
       have hu2 := (Upd.of_below hB1 F).trans hup (fun j _ hj => hj)
       have hsub2 : Sub F' F w := fun k hk => (hsub k hk).imp (fun h => h) (fun h => by have := hB1.size; omega)
       have e13 := (hE.below (hu2.below hBw hF)).errs.cell 13 (by omega)
       simp only [globs, List.getD_cons_zero, List.getD_cons_succ] at e13
       clear hbb)
    | fail)
  go_ret
  exact ⟨rfl, Becomes.sto h0.out ⟨F', v, vs, F2', hst, hsub2, hu2⟩⟩
end
end Go.Proofs.YtinpilfnnmkpoaaDoor
/- A store and blocks beside it. -/
namespace Go.Cour
open Go.RowKit
section
variable {P : Program} {w : World} {ops : Array Oper} {rest : List Oper} {o : Oper} {a : Act} {Q : Exit → Act → World → Prop}
/-- make([]T, n), T whole numbers. -/
theorem make_zeros (hg : o.guard = none) (l c : Operand) (t : TypeId) (hop : o.op = Op.makeSlice t l c) (e : TypeId) (k : IntKind) (bytes : Nat) (h1 : P.underlying t = some (.slice e))
    (hi : (P.info? e).map (fun i => (i.zero, i.size, i.bytes)) = some (some (.int k 0), 1, bytes)) (kl kc : IntKind) (L C : Int) (n : Nat) (hl : a.eval l = .int kl L) (hc : a.eval c = .int kc C) (hL : L = (n : Int)) (hC : C = (n : Int)) (b2 : bytes * n ≤ 281474976710656) (b3 : n ≤ maxLen)
    (hK : ∀ g w', w.heap.size = g → Own w' g e k (.slice (some ⟨g, 0, none⟩) n n) (List.replicate n 0) → Below w.heap.size w w' → wpList P ops Q rest (a.put o.dst (.slice (some ⟨g, 0, none⟩) n n)) w') : wpList P ops Q (o :: rest) a w := by
  obtain ⟨i, hi0, hz0, hz1, hz2⟩ := info_parts hi
  refine wpList_make_full w hg l c t hop w.heap.size e i (.int k 0) 1 h1 hi0 hz0 hz1 kl kc L C n hl hc hL hC (by rw [hz2]; exact b2) b3 (Nat.le_refl _) fun w' ho hg' => ?_
  refine hK w.heap.size w' rfl ?_ ⟨hg'.os, hg'.tape, hg'.output, hg'.size, fun j hj => hg'.block j hj (by simp)⟩
  have hm : (madeCells (Value.int k 0).cells (n * 1)).toList = ints k (List.replicate n 0) := by
    rw [Nat.mul_one]
    show (madeCells #[Value.int k 0] n).toList = _
    rw [toList_madeCells_one]
    simp [ints]
  unfold Own
  rw [List.length_replicate, ← hm]
  exact ho
end
end Go.Cour
namespace Go.Proofs.YtinpilfnnmkpoaaDoor
open Go.RowKit Go.Cour
/-- A store, and blocks G that are none of it. -/
def OneS (w w' : World) (B gs : Nat) (G : Nat → Prop) (st : StoreD) : Prop := ∃ F, Sto w' B F gs st ∧ (∀ k, G k → ¬ F k ∧ k < w'.heap.size) ∧ Below B w w'
section
variable {w w1 : World} {P : Nat → Addr} {B gs : Nat} {G : Nat → Prop} {st : StoreD}
theorem OneS.bel (h : OneS w w1 B gs G st) : Below B w w1 := by obtain ⟨F, _, _, h⟩ := h; exact h
theorem OneS.below {w2 : World} (h : OneS w w1 B gs G st) (hb : Below w1.heap.size w1 w2) : OneS w w2 B gs G st := by
  obtain ⟨F, h1, h2, h3⟩ := h
  exact ⟨F, h1.below hb, fun k hk => ⟨(h2 k hk).1, Nat.lt_of_lt_of_le (h2 k hk).2 hb.size⟩, h3.trans (hb.mono h1.2.2)⟩
theorem OneS.new {w2 : World} (h : OneS w w1 B gs G st) (hb : Below w1.heap.size w1 w2) {g : Nat} (hg : w1.heap.size ≤ g) (hg2 : g < w2.heap.size) : OneS w w2 B gs (fun k => G k ∨ k = g) st := by
  obtain ⟨F, h1, h2, h3⟩ := h
  refine ⟨F, h1.below hb, fun k hk => ?_, h3.trans (hb.mono h1.2.2)⟩
  rcases hk with hk | rfl
  · exact ⟨(h2 k hk).1, Nat.lt_of_lt_of_le (h2 k hk).2 hb.size⟩
  · exact ⟨fun hf => by have := h1.lt k hf; omega, hg2⟩
theorem OneS.step {w2 : World} {st2 : StoreD} {F : Nat → Prop} (h2 : ∀ k, G k → ¬ F k ∧ k < w1.heap.size) (h3 : Below B w w1) (hx : ∃ F', Sto w2 B F' gs st2 ∧ Sub F' F w1 ∧ Upd F w1 w2 ∧ Below B w1 w2) : OneS w w2 B gs G st2 ∧ ∀ k, G k → w2.heap[k]? = w1.heap[k]? := by
  obtain ⟨F', k1, k2, k3, k4⟩ := hx
  refine ⟨⟨F', k1, fun k hk => ⟨fun hf => ?_, Nat.lt_of_lt_of_le (h2 k hk).2 k3.size⟩, h3.trans k4⟩, fun k hk => k3.block k (h2 k hk).2 (h2 k hk).1⟩
  rcases k2 k hf with h4 | h4
  · exact (h2 k hk).1 h4
  · have := (h2 k hk).2; omega
theorem openO (id : List Int) (n : Int) (st2 : StoreD) (o : Option Nat) (hE : ErrsAt w P B) (h : OneS w w1 B gs G st) (hG : Good st) (hid' : id.length = 32) (h1 : openE st id n = o) (h2 : openS st id n = st2) :
    Calls Tryd.prog 11 #[.pointer (some ⟨gs, 0, none⟩), .agg (ints .u8 id).toArray, .int .i64 n] w1 fun e w' => e = .returned (erV P o) ∧ OneS w w' B gs G st2 ∧ ∀ k, G k → w'.heap[k]? = w1.heap[k]? := by
  subst h1 h2
  obtain ⟨F, h1, h2, h3⟩ := h
  exact (openX id n (hE.below h3) h1 hG hid').mono fun e w' ⟨he, hx⟩ => ⟨he, OneS.step h2 h3 hx⟩
theorem putO (id : List Int) (off : Int) (bs : List Int) (Ab : Option Addr) (q cb : Nat) (r : Int × Option Nat) (l2 : List Item) (hE : ErrsAt w P B) (h : OneS w w1 B gs G st) (hG : Good st) (hid' : id.length = 32)
    (ho : -9223372036854775808 ≤ off ∧ off < 9223372036854775808) (hq : bs.length = q) (hq2 : q ≤ 1000000) (hqc : q ≤ cb) (hAb : Ab = none → cb = 0) (hrd : Rd w1 Ab .u8 bs) (hsep : ∀ a, Ab = some a → bs ≠ [] → G a.block) (h1 : putOf id off bs st.l = r) (h2 : putL id off bs st.l = l2) :
    Calls Tryd.prog 19 #[.pointer (some ⟨gs, 0, none⟩), .agg (ints .u8 id).toArray, .int .i64 off, .slice Ab q cb] w1 fun e w' => e = .returned (.tuple #[.int .i64 r.1, erV P r.2]) ∧ OneS w w' B gs G { st with l := l2 } ∧ ∀ k, G k → w'.heap[k]? = w1.heap[k]? := by
  subst h1 h2
  obtain ⟨F, h1, h2, h3⟩ := h
  exact (putX id off bs Ab q cb (hE.below h3) h1 hG hid' ho hq hq2 hqc hAb hrd (fun a ha hn => (h2 _ (hsep a ha hn)).1)).mono fun e w' ⟨he, hx⟩ => ⟨he, OneS.step h2 h3 hx⟩
theorem statO (id : List Int) (r : Int × Bool × Option Nat) (l2 : List Item) (hE : ErrsAt w P B) (h : OneS w w1 B gs G st) (hid' : id.length = 32) (hlen : st.l.length ≤ 1000000) (h1 : statOf id st.l = r) (h2 : touch id st.l = l2) :
    Calls Tryd.prog 16 #[.pointer (some ⟨gs, 0, none⟩), .agg (ints .u8 id).toArray] w1 fun e w' => e = .returned (.tuple #[.int .i64 r.1, .bool r.2.1, erV P r.2.2]) ∧ OneS w w' B gs G { st with l := l2 } ∧ ∀ k, G k → w'.heap[k]? = w1.heap[k]? := by
  subst h1 h2
  obtain ⟨F, h1, h2, h3⟩ := h
  exact (statX id (hE.below h3) h1 hid' hlen).mono fun e w' ⟨he, hx⟩ => ⟨he, OneS.step h2 h3 hx⟩
theorem commitO (id : List Int) (hE : ErrsAt w P B) (h : OneS w w1 B gs G st) (hid' : id.length = 32) (hlen : st.l.length ≤ 1000000) (hk : ¬ posOf id st.l < st.l.length) :
    Calls Tryd.prog 21 #[.pointer (some ⟨gs, 0, none⟩), .agg (ints .u8 id).toArray] w1 fun e w' => e = .returned (erV P (some 13)) ∧ OneS w w' B gs G st ∧ ∀ k, G k → w'.heap[k]? = w1.heap[k]? := by
  obtain ⟨F, h1, h2, h3⟩ := h
  exact (commit_none id (hE.below h3) h1 hid' hlen hk).mono fun e w' ⟨he, hx⟩ => ⟨he, OneS.step h2 h3 hx⟩
theorem usedO (U : Int) (h : OneS w w1 B gs G st) (hG : Good st) (hu : used st.l = U) :
    Calls Tryd.prog 14 #[.pointer (some ⟨gs, 0, none⟩)] w1 fun e w' => e = .returned (.int .i64 U) ∧ OneS w w' B gs G st ∧ Below w1.heap.size w1 w' := by
  subst hu
  have h0 := h
  obtain ⟨F, h1, h2, h3⟩ := h
  exact (usedX h1 hG).mono fun e w' ⟨he, hx⟩ => ⟨he, h0.below hx, hx⟩
theorem newO (quota life : Int) (w w1 : World) (B : Nat) (hB : Below B w w1) (h0 : B ≤ w1.heap.size) (G : Nat → Prop) (hG : ∀ k, G k → k < w1.heap.size) :
    Calls Tryd.prog 10 #[.int .i64 quota, .int .i64 life] w1 fun e w' => ∃ gs, e = .returned (.pointer (some ⟨gs, 0, none⟩)) ∧ OneS w w' B gs G ⟨quota, max life 1, []⟩ ∧ Below w1.heap.size w1 w' :=
  (newX quota life w1 B h0).mono fun e w' ⟨gs, F, he, h1, h2, h3⟩ => ⟨gs, he, ⟨F, h1, fun k hk => ⟨fun hf => by have := h2 k hf; have := hG k hk; omega, Nat.lt_of_lt_of_le (hG k hk) h3.size⟩, hB.trans (h3.mono h0)⟩, h3⟩
end
end Go.Proofs.YtinpilfnnmkpoaaDoor
/- A word, turned to the right. -/
namespace Go.Proofs.YtinpilfnnmkpoaaDoor
open Go.RowKit Go.Cour
/-- x turned to the right by k. -/
def rotr (k : Nat) (x : Int) : Int := bits .or .u32 (x * 2 ^ (32 - k) % 4294967296) (x / 2 ^ k)
theorem rl2_calls (x : Int) (w : World) (h : 0 ≤ x) (h' : x < 4294967296) :
    Calls Tryd.prog 55 #[.int .u32 x, .int .i64 (-2)] w fun e w' => e = .returned (.int .u32 (rotr 2 x)) ∧ w' = w := by
  have b1 : bits .and .u64 (IntKind.u64.wrap (-2)) 31 = 30 := by decide
  go_enter Tryd.func55, Tryd.ntmps55
  go_wp2
  go_ret
  exact ⟨rfl, rfl⟩
theorem right2_calls (x : Int) (w : World) (h : 0 ≤ x) (h' : x < 4294967296) :
    Calls Tryd.prog 54 #[.int .u32 x, .int .i64 2] w fun e w' => e = .returned (.int .u32 (rotr 2 x)) ∧ w' = w := by
  go_enter Tryd.func54, Tryd.ntmps54
  go_wp2_with (first
    | (go_at_call 55; refine (rl2_calls x _ h h').mono ?_; rintro e w1 ⟨rfl, rfl⟩)
    | fail)
  go_ret
  exact ⟨rfl, rfl⟩
theorem rot2_calls (x : Int) (w : World) (h : 0 ≤ x) (h' : x < 4294967296) :
    Calls Tryd.prog 45 #[.int .u32 x, .int .u64 2] w fun e w' => e = .returned (.int .u32 (bits .or .u32 (x / 2 ^ 2) (x * 2 ^ (32 - 2) % 4294967296))) ∧ w' = w := by
  go_enter Tryd.func45, Tryd.ntmps45
  go_wp2
  go_ret
  exact ⟨rfl, rfl⟩
theorem rl6_calls (x : Int) (w : World) (h : 0 ≤ x) (h' : x < 4294967296) :
    Calls Tryd.prog 55 #[.int .u32 x, .int .i64 (-6)] w fun e w' => e = .returned (.int .u32 (rotr 6 x)) ∧ w' = w := by
  have b1 : bits .and .u64 (IntKind.u64.wrap (-6)) 31 = 26 := by decide
  go_enter Tryd.func55, Tryd.ntmps55
  go_wp2
  go_ret
  exact ⟨rfl, rfl⟩
theorem right6_calls (x : Int) (w : World) (h : 0 ≤ x) (h' : x < 4294967296) :
    Calls Tryd.prog 54 #[.int .u32 x, .int .i64 6] w fun e w' => e = .returned (.int .u32 (rotr 6 x)) ∧ w' = w := by
  go_enter Tryd.func54, Tryd.ntmps54
  go_wp2_with (first
    | (go_at_call 55; refine (rl6_calls x _ h h').mono ?_; rintro e w1 ⟨rfl, rfl⟩)
    | fail)
  go_ret
  exact ⟨rfl, rfl⟩
theorem rot6_calls (x : Int) (w : World) (h : 0 ≤ x) (h' : x < 4294967296) :
    Calls Tryd.prog 45 #[.int .u32 x, .int .u64 6] w fun e w' => e = .returned (.int .u32 (bits .or .u32 (x / 2 ^ 6) (x * 2 ^ (32 - 6) % 4294967296))) ∧ w' = w := by
  go_enter Tryd.func45, Tryd.ntmps45
  go_wp2
  go_ret
  exact ⟨rfl, rfl⟩
theorem rl7_calls (x : Int) (w : World) (h : 0 ≤ x) (h' : x < 4294967296) :
    Calls Tryd.prog 55 #[.int .u32 x, .int .i64 (-7)] w fun e w' => e = .returned (.int .u32 (rotr 7 x)) ∧ w' = w := by
  have b1 : bits .and .u64 (IntKind.u64.wrap (-7)) 31 = 25 := by decide
  go_enter Tryd.func55, Tryd.ntmps55
  go_wp2
  go_ret
  exact ⟨rfl, rfl⟩
theorem right7_calls (x : Int) (w : World) (h : 0 ≤ x) (h' : x < 4294967296) :
    Calls Tryd.prog 54 #[.int .u32 x, .int .i64 7] w fun e w' => e = .returned (.int .u32 (rotr 7 x)) ∧ w' = w := by
  go_enter Tryd.func54, Tryd.ntmps54
  go_wp2_with (first
    | (go_at_call 55; refine (rl7_calls x _ h h').mono ?_; rintro e w1 ⟨rfl, rfl⟩)
    | fail)
  go_ret
  exact ⟨rfl, rfl⟩
theorem rot7_calls (x : Int) (w : World) (h : 0 ≤ x) (h' : x < 4294967296) :
    Calls Tryd.prog 45 #[.int .u32 x, .int .u64 7] w fun e w' => e = .returned (.int .u32 (bits .or .u32 (x / 2 ^ 7) (x * 2 ^ (32 - 7) % 4294967296))) ∧ w' = w := by
  go_enter Tryd.func45, Tryd.ntmps45
  go_wp2
  go_ret
  exact ⟨rfl, rfl⟩
theorem rl11_calls (x : Int) (w : World) (h : 0 ≤ x) (h' : x < 4294967296) :
    Calls Tryd.prog 55 #[.int .u32 x, .int .i64 (-11)] w fun e w' => e = .returned (.int .u32 (rotr 11 x)) ∧ w' = w := by
  have b1 : bits .and .u64 (IntKind.u64.wrap (-11)) 31 = 21 := by decide
  go_enter Tryd.func55, Tryd.ntmps55
  go_wp2
  go_ret
  exact ⟨rfl, rfl⟩
theorem right11_calls (x : Int) (w : World) (h : 0 ≤ x) (h' : x < 4294967296) :
    Calls Tryd.prog 54 #[.int .u32 x, .int .i64 11] w fun e w' => e = .returned (.int .u32 (rotr 11 x)) ∧ w' = w := by
  go_enter Tryd.func54, Tryd.ntmps54
  go_wp2_with (first
    | (go_at_call 55; refine (rl11_calls x _ h h').mono ?_; rintro e w1 ⟨rfl, rfl⟩)
    | fail)
  go_ret
  exact ⟨rfl, rfl⟩
theorem rot11_calls (x : Int) (w : World) (h : 0 ≤ x) (h' : x < 4294967296) :
    Calls Tryd.prog 45 #[.int .u32 x, .int .u64 11] w fun e w' => e = .returned (.int .u32 (bits .or .u32 (x / 2 ^ 11) (x * 2 ^ (32 - 11) % 4294967296))) ∧ w' = w := by
  go_enter Tryd.func45, Tryd.ntmps45
  go_wp2
  go_ret
  exact ⟨rfl, rfl⟩
theorem rl13_calls (x : Int) (w : World) (h : 0 ≤ x) (h' : x < 4294967296) :
    Calls Tryd.prog 55 #[.int .u32 x, .int .i64 (-13)] w fun e w' => e = .returned (.int .u32 (rotr 13 x)) ∧ w' = w := by
  have b1 : bits .and .u64 (IntKind.u64.wrap (-13)) 31 = 19 := by decide
  go_enter Tryd.func55, Tryd.ntmps55
  go_wp2
  go_ret
  exact ⟨rfl, rfl⟩
theorem right13_calls (x : Int) (w : World) (h : 0 ≤ x) (h' : x < 4294967296) :
    Calls Tryd.prog 54 #[.int .u32 x, .int .i64 13] w fun e w' => e = .returned (.int .u32 (rotr 13 x)) ∧ w' = w := by
  go_enter Tryd.func54, Tryd.ntmps54
  go_wp2_with (first
    | (go_at_call 55; refine (rl13_calls x _ h h').mono ?_; rintro e w1 ⟨rfl, rfl⟩)
    | fail)
  go_ret
  exact ⟨rfl, rfl⟩
theorem rot13_calls (x : Int) (w : World) (h : 0 ≤ x) (h' : x < 4294967296) :
    Calls Tryd.prog 45 #[.int .u32 x, .int .u64 13] w fun e w' => e = .returned (.int .u32 (bits .or .u32 (x / 2 ^ 13) (x * 2 ^ (32 - 13) % 4294967296))) ∧ w' = w := by
  go_enter Tryd.func45, Tryd.ntmps45
  go_wp2
  go_ret
  exact ⟨rfl, rfl⟩
theorem rl17_calls (x : Int) (w : World) (h : 0 ≤ x) (h' : x < 4294967296) :
    Calls Tryd.prog 55 #[.int .u32 x, .int .i64 (-17)] w fun e w' => e = .returned (.int .u32 (rotr 17 x)) ∧ w' = w := by
  have b1 : bits .and .u64 (IntKind.u64.wrap (-17)) 31 = 15 := by decide
  go_enter Tryd.func55, Tryd.ntmps55
  go_wp2
  go_ret
  exact ⟨rfl, rfl⟩
theorem right17_calls (x : Int) (w : World) (h : 0 ≤ x) (h' : x < 4294967296) :
    Calls Tryd.prog 54 #[.int .u32 x, .int .i64 17] w fun e w' => e = .returned (.int .u32 (rotr 17 x)) ∧ w' = w := by
  go_enter Tryd.func54, Tryd.ntmps54
  go_wp2_with (first
    | (go_at_call 55; refine (rl17_calls x _ h h').mono ?_; rintro e w1 ⟨rfl, rfl⟩)
    | fail)
  go_ret
  exact ⟨rfl, rfl⟩
theorem rot17_calls (x : Int) (w : World) (h : 0 ≤ x) (h' : x < 4294967296) :
    Calls Tryd.prog 45 #[.int .u32 x, .int .u64 17] w fun e w' => e = .returned (.int .u32 (bits .or .u32 (x / 2 ^ 17) (x * 2 ^ (32 - 17) % 4294967296))) ∧ w' = w := by
  go_enter Tryd.func45, Tryd.ntmps45
  go_wp2
  go_ret
  exact ⟨rfl, rfl⟩
theorem rl18_calls (x : Int) (w : World) (h : 0 ≤ x) (h' : x < 4294967296) :
    Calls Tryd.prog 55 #[.int .u32 x, .int .i64 (-18)] w fun e w' => e = .returned (.int .u32 (rotr 18 x)) ∧ w' = w := by
  have b1 : bits .and .u64 (IntKind.u64.wrap (-18)) 31 = 14 := by decide
  go_enter Tryd.func55, Tryd.ntmps55
  go_wp2
  go_ret
  exact ⟨rfl, rfl⟩
theorem right18_calls (x : Int) (w : World) (h : 0 ≤ x) (h' : x < 4294967296) :
    Calls Tryd.prog 54 #[.int .u32 x, .int .i64 18] w fun e w' => e = .returned (.int .u32 (rotr 18 x)) ∧ w' = w := by
  go_enter Tryd.func54, Tryd.ntmps54
  go_wp2_with (first
    | (go_at_call 55; refine (rl18_calls x _ h h').mono ?_; rintro e w1 ⟨rfl, rfl⟩)
    | fail)
  go_ret
  exact ⟨rfl, rfl⟩
theorem rot18_calls (x : Int) (w : World) (h : 0 ≤ x) (h' : x < 4294967296) :
    Calls Tryd.prog 45 #[.int .u32 x, .int .u64 18] w fun e w' => e = .returned (.int .u32 (bits .or .u32 (x / 2 ^ 18) (x * 2 ^ (32 - 18) % 4294967296))) ∧ w' = w := by
  go_enter Tryd.func45, Tryd.ntmps45
  go_wp2
  go_ret
  exact ⟨rfl, rfl⟩
theorem rl19_calls (x : Int) (w : World) (h : 0 ≤ x) (h' : x < 4294967296) :
    Calls Tryd.prog 55 #[.int .u32 x, .int .i64 (-19)] w fun e w' => e = .returned (.int .u32 (rotr 19 x)) ∧ w' = w := by
  have b1 : bits .and .u64 (IntKind.u64.wrap (-19)) 31 = 13 := by decide
  go_enter Tryd.func55, Tryd.ntmps55
  go_wp2
  go_ret
  exact ⟨rfl, rfl⟩
theorem right19_calls (x : Int) (w : World) (h : 0 ≤ x) (h' : x < 4294967296) :
    Calls Tryd.prog 54 #[.int .u32 x, .int .i64 19] w fun e w' => e = .returned (.int .u32 (rotr 19 x)) ∧ w' = w := by
  go_enter Tryd.func54, Tryd.ntmps54
  go_wp2_with (first
    | (go_at_call 55; refine (rl19_calls x _ h h').mono ?_; rintro e w1 ⟨rfl, rfl⟩)
    | fail)
  go_ret
  exact ⟨rfl, rfl⟩
theorem rot19_calls (x : Int) (w : World) (h : 0 ≤ x) (h' : x < 4294967296) :
    Calls Tryd.prog 45 #[.int .u32 x, .int .u64 19] w fun e w' => e = .returned (.int .u32 (bits .or .u32 (x / 2 ^ 19) (x * 2 ^ (32 - 19) % 4294967296))) ∧ w' = w := by
  go_enter Tryd.func45, Tryd.ntmps45
  go_wp2
  go_ret
  exact ⟨rfl, rfl⟩
theorem rl22_calls (x : Int) (w : World) (h : 0 ≤ x) (h' : x < 4294967296) :
    Calls Tryd.prog 55 #[.int .u32 x, .int .i64 (-22)] w fun e w' => e = .returned (.int .u32 (rotr 22 x)) ∧ w' = w := by
  have b1 : bits .and .u64 (IntKind.u64.wrap (-22)) 31 = 10 := by decide
  go_enter Tryd.func55, Tryd.ntmps55
  go_wp2
  go_ret
  exact ⟨rfl, rfl⟩
theorem right22_calls (x : Int) (w : World) (h : 0 ≤ x) (h' : x < 4294967296) :
    Calls Tryd.prog 54 #[.int .u32 x, .int .i64 22] w fun e w' => e = .returned (.int .u32 (rotr 22 x)) ∧ w' = w := by
  go_enter Tryd.func54, Tryd.ntmps54
  go_wp2_with (first
    | (go_at_call 55; refine (rl22_calls x _ h h').mono ?_; rintro e w1 ⟨rfl, rfl⟩)
    | fail)
  go_ret
  exact ⟨rfl, rfl⟩
theorem rot22_calls (x : Int) (w : World) (h : 0 ≤ x) (h' : x < 4294967296) :
    Calls Tryd.prog 45 #[.int .u32 x, .int .u64 22] w fun e w' => e = .returned (.int .u32 (bits .or .u32 (x / 2 ^ 22) (x * 2 ^ (32 - 22) % 4294967296))) ∧ w' = w := by
  go_enter Tryd.func45, Tryd.ntmps45
  go_wp2
  go_ret
  exact ⟨rfl, rfl⟩
theorem rl25_calls (x : Int) (w : World) (h : 0 ≤ x) (h' : x < 4294967296) :
    Calls Tryd.prog 55 #[.int .u32 x, .int .i64 (-25)] w fun e w' => e = .returned (.int .u32 (rotr 25 x)) ∧ w' = w := by
  have b1 : bits .and .u64 (IntKind.u64.wrap (-25)) 31 = 7 := by decide
  go_enter Tryd.func55, Tryd.ntmps55
  go_wp2
  go_ret
  exact ⟨rfl, rfl⟩
theorem right25_calls (x : Int) (w : World) (h : 0 ≤ x) (h' : x < 4294967296) :
    Calls Tryd.prog 54 #[.int .u32 x, .int .i64 25] w fun e w' => e = .returned (.int .u32 (rotr 25 x)) ∧ w' = w := by
  go_enter Tryd.func54, Tryd.ntmps54
  go_wp2_with (first
    | (go_at_call 55; refine (rl25_calls x _ h h').mono ?_; rintro e w1 ⟨rfl, rfl⟩)
    | fail)
  go_ret
  exact ⟨rfl, rfl⟩
theorem rot25_calls (x : Int) (w : World) (h : 0 ≤ x) (h' : x < 4294967296) :
    Calls Tryd.prog 45 #[.int .u32 x, .int .u64 25] w fun e w' => e = .returned (.int .u32 (bits .or .u32 (x / 2 ^ 25) (x * 2 ^ (32 - 25) % 4294967296))) ∧ w' = w := by
  go_enter Tryd.func45, Tryd.ntmps45
  go_wp2
  go_ret
  exact ⟨rfl, rfl⟩
end Go.Proofs.YtinpilfnnmkpoaaDoor
/- A block's words; a round; a block taken in: as functions of lists. -/
namespace Go.Proofs.YtinpilfnnmkpoaaDoor
open Go.RowKit Go.Cour
/-- The numbers of the rounds. -/
def shaK : List Int := [1116352408, 1899447441, 3049323471, 3921009573, 961987163, 1508970993, 2453635748, 2870763221, 3624381080, 310598401, 607225278, 1426881987, 1925078388, 2162078206, 2614888103, 3248222580, 3835390401, 4022224774, 264347078, 604807628, 770255983, 1249150122, 1555081692, 1996064986, 2554220882, 2821834349, 2952996808, 3210313671, 3336571891, 3584528711, 113926993, 338241895, 666307205, 773529912, 1294757372, 1396182291, 1695183700, 1986661051, 2177026350, 2456956037, 2730485921, 2820302411, 3259730800, 3345764771, 3516065817, 3600352804, 4094571909, 275423344, 430227734, 506948616, 659060556, 883997877, 958139571, 1322822218, 1537002063, 1747873779, 1955562222, 2024104815, 2227730452, 2361852424, 2428436474, 2756734187, 3204031479, 3329325298]
/-- A block's word. -/
def word32 (b : List Int) (i : Nat) : Int := bits .or .u32 (bits .or .u32 (bits .or .u32 (rd b (4 * i) * 16777216) (rd b (4 * i + 1) * 65536)) (rd b (4 * i + 2) * 256)) (rd b (4 * i + 3))
def sig (a b : Nat) (d x : Int) : Int := bits .xor .u32 (bits .xor .u32 (rotr a x) (rotr b x)) (x / d)
def Sig (a b c : Nat) (x : Int) : Int := bits .xor .u32 (bits .xor .u32 (rotr a x) (rotr b x)) (rotr c x)
def schedW (w : List Int) (i : Nat) : Int := (rd w (i - 16) + sig 7 18 8 (rd w (i - 15)) + rd w (i - 7) + sig 17 19 1024 (rd w (i - 2))) % 4294967296
/-- The words so far: of the block. -/
def schedA (b : List Int) (n : Nat) : List Int := (List.range n).foldl (fun w i => w.set i (word32 b i)) (List.replicate 64 0)
/-- And those that come of them. -/
def schedB (b : List Int) (n : Nat) : List Int := (List.range n).foldl (fun w i => w.set (16 + i) (schedW w (16 + i))) (schedA b 16)
def sched (b : List Int) : List Int := schedB b 48
theorem schedA_succ (b : List Int) (n : Nat) : schedA b (n + 1) = (schedA b n).set n (word32 b n) := by simp [schedA, List.range_succ]
theorem schedB_succ (b : List Int) (n : Nat) : schedB b (n + 1) = (schedB b n).set (16 + n) (schedW (schedB b n) (16 + n)) := by simp [schedB, List.range_succ]
@[simp] theorem schedA_length (b : List Int) (n : Nat) : (schedA b n).length = 64 := by
  induction n with
  | zero => simp [schedA]
  | succ n ih => rw [schedA_succ]; simpa using ih
@[simp] theorem schedB_length (b : List Int) (n : Nat) : (schedB b n).length = 64 := by
  induction n with
  | zero => simp [schedB]
  | succ n ih => rw [schedB_succ]; simpa using ih
def W32 (x : Int) : Prop := 0 ≤ x ∧ x < 4294967296
theorem bits_W32 (op : BinOp) (x y : Int) : W32 (bits op .u32 x y) := ⟨bits_lo_u32 _ _ _, by have := bits_hi_u32 op x y; omega⟩
theorem mod_W32 (x : Int) : W32 (x % 4294967296) := ⟨Int.emod_nonneg _ (by decide), Int.emod_lt_of_pos _ (by decide)⟩
theorem rd_all {P : Int → Prop} {xs : List Int} (h : ∀ x ∈ xs, P x) (h0 : P 0) (i : Nat) : P (rd xs i) := by
  unfold rd
  rw [List.getD_eq_getElem?_getD]
  cases hi : xs[i]? with
  | none => exact h0
  | some x => exact h x (List.mem_of_getElem? hi)
theorem zero_W32 : W32 0 := ⟨by decide, by decide⟩
theorem word32_W32 (b : List Int) (i : Nat) : W32 (word32 b i) := bits_W32 _ _ _
theorem schedW_W32 (b : List Int) (i : Nat) : W32 (schedW b i) := mod_W32 _
theorem set_all {P : Int → Prop} {xs : List Int} {i : Nat} {y : Int} (h : ∀ x ∈ xs, P x) (hy : P y) : ∀ x ∈ xs.set i y, P x := fun x hx => by
  rcases List.mem_or_eq_of_mem_set hx with h1 | h1
  · exact h x h1
  · exact h1 ▸ hy
theorem schedA_W32 (b : List Int) (n : Nat) : ∀ x ∈ schedA b n, W32 x := by
  induction n with
  | zero => intro x hx; simp [schedA] at hx; rw [hx]; exact zero_W32
  | succ n ih => rw [schedA_succ]; exact set_all ih (word32_W32 _ _)
theorem schedB_W32 (b : List Int) (n : Nat) : ∀ x ∈ schedB b n, W32 x := by
  induction n with
  | zero => simpa [schedB] using schedA_W32 b 16
  | succ n ih => rw [schedB_succ]; exact set_all ih (schedW_W32 _ _)
theorem shaK_all : ∀ x ∈ shaK, W32 x := by unfold W32; decide
theorem shaK_W32 (i : Nat) : W32 (rd shaK i) := rd_all shaK_all zero_W32 i
/-- A round. -/
def oneS (s : List Int) (k w : Int) : Int := (rd s 7 + Sig 6 11 25 (rd s 4) + bits .xor .u32 (bits .and .u32 (rd s 4) (rd s 5)) (bits .and .u32 (bits .xor .u32 IntKind.u32.max (rd s 4)) (rd s 6)) + k + w)
def twoS (s : List Int) : Int := (Sig 2 13 22 (rd s 0) + bits .xor .u32 (bits .xor .u32 (bits .and .u32 (rd s 0) (rd s 1)) (bits .and .u32 (rd s 0) (rd s 2))) (bits .and .u32 (rd s 1) (rd s 2)))
def stepS (ws : List Int) (s : List Int) (i : Nat) : List Int :=
  [(oneS s (rd shaK i) (rd ws i) + twoS s) % 4294967296, rd s 0, rd s 1, rd s 2, (rd s 3 + oneS s (rd shaK i) (rd ws i)) % 4294967296, rd s 4, rd s 5, rd s 6]
def roundsS (b h : List Int) (n : Nat) : List Int := (List.range n).foldl (stepS (sched b)) h
theorem roundsS_succ (b h : List Int) (n : Nat) : roundsS b h (n + 1) = stepS (sched b) (roundsS b h n) n := by simp [roundsS, List.range_succ]
theorem roundsS_length (b h : List Int) (hl : h.length = 8) (n : Nat) : (roundsS b h n).length = 8 := by
  cases n with
  | zero => simpa [roundsS] using hl
  | succ n => rw [roundsS_succ]; rfl
theorem stepS_W32 {ws s : List Int} {i : Nat} (h : ∀ x ∈ s, W32 x) : ∀ x ∈ stepS ws s i, W32 x := fun x hx => by
  have r := fun j => rd_all h zero_W32 j
  simp only [stepS, List.mem_cons, List.not_mem_nil, or_false] at hx
  rcases hx with rfl | rfl | rfl | rfl | rfl | rfl | rfl | rfl <;> first | exact r _ | exact mod_W32 _
theorem roundsS_W32 (b h : List Int) (hh : ∀ x ∈ h, W32 x) (n : Nat) : ∀ x ∈ roundsS b h n, W32 x := by
  induction n with
  | zero => simpa [roundsS] using hh
  | succ n ih => rw [roundsS_succ]; exact stepS_W32 ih
/-- Some of the words laid on top of the others. -/
def topS (h s : List Int) (n : Nat) : List Int := (List.range n).foldl (fun x i => x.set i ((rd h i + rd s i) % 4294967296)) h
theorem topS_succ (h s : List Int) (n : Nat) : topS h s (n + 1) = (topS h s n).set n ((rd h n + rd s n) % 4294967296) := by simp [topS, List.range_succ]
@[simp] theorem topS_length (h s : List Int) (n : Nat) : (topS h s n).length = h.length := by
  induction n with
  | zero => rfl
  | succ n ih => rw [topS_succ]; simpa using ih
theorem topS_rd (h s : List Int) (n j : Nat) (hj : n ≤ j) : rd (topS h s n) j = rd h j := by
  induction n with
  | zero => rfl
  | succ n ih =>
    rw [topS_succ, rd_set', if_neg (by omega)]
    exact ih (by omega)
theorem topS_W32 (h s : List Int) (hh : ∀ x ∈ h, W32 x) (n : Nat) : ∀ x ∈ topS h s n, W32 x := by
  induction n with
  | zero => exact hh
  | succ n ih => rw [topS_succ]; exact set_all ih (mod_W32 _)
/-- A block taken in. -/
def shaBlock (h b : List Int) : List Int := topS h (roundsS b h 64) 8
theorem shaBlock_length (h b : List Int) : (shaBlock h b).length = h.length := topS_length _ _ _
theorem shaBlock_W32 (h b : List Int) (hh : ∀ x ∈ h, W32 x) : ∀ x ∈ shaBlock h b, W32 x := topS_W32 _ _ hh _
end Go.Proofs.YtinpilfnnmkpoaaDoor
