/- slices.DeleteFunc over the store's blobs. -/
import Derived.Test.YtinpilfnnmkpoaaDoorBlobE
import Derived.Lib.SliceRun
namespace Go.Proofs.YtinpilfnnmkpoaaDoor
open Go.RowKit Go.Cour
/-- The elements that are kept. -/
def keptL (p : Item → Bool) (vs : List Value) (l : List Item) : List Value := ((vs.zip l).filter fun y => !p y.2).map (·.1)
theorem kept_take_succ {p : Item → Bool} {vs : List Value} {l : List Item} {i : Nat} {u : Value} {x : Item} (hu : vs[i]? = some u) (hx : l[i]? = some x) :
    keptL p (vs.take (i + 1)) (l.take (i + 1)) = keptL p (vs.take i) (l.take i) ++ (if p x then [] else [u]) := by
  have h1 : vs.take (i + 1) = vs.take i ++ [u] := by rw [List.take_add_one, hu]; rfl
  have h2 : l.take (i + 1) = l.take i ++ [x] := by rw [List.take_add_one, hx]; rfl
  have h3 : (vs.take i).length = (l.take i).length := by
    have := (List.getElem?_eq_some_iff.1 hu).1
    have := (List.getElem?_eq_some_iff.1 hx).1
    simp; omega
  unfold keptL
  rw [h1, h2, List.zip_append h3, List.filter_append, List.map_append]
  cases hp : p x <;> simp [hp]
theorem kept_none {p : Item → Bool} {vs : List Value} {l : List Item} (hl : vs.length = l.length) : ∀ i, (∀ j x, j < i → l[j]? = some x → p x = false) → i ≤ l.length → keptL p (vs.take i) (l.take i) = vs.take i
  | 0, _, _ => by simp [keptL]
  | i + 1, h, hi => by
    have hu : vs[i]? = some vs[i] := List.getElem?_eq_getElem (by omega)
    have hx : l[i]? = some l[i] := List.getElem?_eq_getElem (by omega)
    rw [kept_take_succ hu hx, kept_none hl i (fun j x hj => h j x (by omega)) (by omega), h i _ (by omega) hx, List.take_add_one, hu]
    rfl
theorem kept_all {p : Item → Bool} {vs : List Value} {l : List Item} (hl : vs.length = l.length) (h : ¬ l.findIdx p < l.length) : keptL p vs l = vs := by
  have h1 := kept_none (p := p) hl l.length (fun j x hj hx => by
    have := List.not_of_lt_findIdx (xs := l) (p := p) (i := j) (by have := List.findIdx_le_length (p := p) (xs := l); omega)
    rw [List.getElem?_eq_getElem hj] at hx
    injection hx with hx
    rw [hx] at this
    simpa using this) (Nat.le_refl _)
  rw [List.take_length, ← hl, List.take_length] at h1
  exact h1
/-- The row while it is made shorter. -/
structure RowSt (w wr : World) (gv c n i j : Nat) (p : Item → Bool) (vs : List Value) (l : List Item) : Prop where
  only : Only gv w wr
  row : ∃ cs : List Value, Blk wr gv 59 cs ∧ cs.length = c ∧ (∀ a, a < i → cs[a]? = (keptL p (vs.take j) (l.take j))[a]?) ∧ (∀ a, j ≤ a → a < n → cs[a]? = vs[a]?)
  len : (keptL p (vs.take j) (l.take j)).length = i
theorem Only.kept {g : Nat} {w w' : World} (h : Only g w w') {v : Value} {A : Option Addr} : True := trivial
theorem blk_setCells {g : Nat} {t : TypeId} : ∀ (us : List Value) (o : Nat) (w : World) (cs : List Value), Blk w g t cs → ∃ cs', Blk (w.setCells g o us) g t cs' ∧ cs'.length = cs.length ∧ (∀ a, a < o → cs'[a]? = cs[a]?) ∧ Only g w (w.setCells g o us)
  | [], o, w, cs, h => ⟨cs, h, rfl, fun _ _ => rfl, Only.refl _ _⟩
  | u :: us, o, w, cs, h => by
    obtain ⟨cs', h1, h2, h3, h4⟩ := blk_setCells us (o + 1) _ _ (h.set o u)
    refine ⟨cs', h1, by rw [h2, List.length_set], fun a ha => ?_, ((Only.refl g w).setCell o u).trans h4⟩
    rw [h3 a (by omega), List.getElem?_set_ne (by omega)]
theorem clear_step {P : Program} {ops : Array Oper} {rest : List Oper} {o : Oper} {a : Act} {w : World} {Q : Exit → Act → World → Prop} (hgd : o.guard = none) (x : Operand) (t e : TypeId)
    (ho : o.op = .call { callee := .builtin .clear, args := #[x], argTypes := #[t] }) (ht : P.underlying t = some (.slice e)) (z : Value) (hv : ∀ w, (zeroValue e).run P w = .ok z w) (hz : z.cells = #[z]) (h1 : z.oneCell' = true)
    (g i n c : Nat) (hx : a.eval x = .slice (some ⟨g, i, none⟩) n c) (hn : 0 < n) (t' : TypeId) (cs : List Value) (hg : Blk w g t' cs) (hl : i + n ≤ cs.length)
    (h : ∀ w' cs', Blk w' g t' cs' → cs'.length = cs.length → (∀ b, b < i → cs'[b]? = cs[b]?) → Only g w w' → wpList P ops Q rest (a.put o.dst (.tuple #[])) w') : wpList P ops Q (o :: rest) a w := by
  refine wpList_plain hgd fun K hK => ?_
  have hr := Lib.run_clear_slice (P := P) w t e o.type z ht hv hz h1 g i n c hn (fun j hj => by rw [hg.cell, List.getElem?_eq_getElem (by omega)]; rfl) (fun j hj => hg.frozen _)
  obtain ⟨cs', h2, h3, h4, h5⟩ := blk_setCells (List.replicate n z) i w cs hg
  unfold Oper.wp execOp
  simp only [ho, resolve, invoke, builtin, Sem.run_bind, Sem.run_pure, Result.andThen_ok, List.map_toArray, List.map_cons, List.map_nil, hx, hr]
  exact hK _ _ (h _ cs' h2 h3 h4 h5)
theorem zeroPI : ∀ w, (zeroValue 59).run Tryd.prog w = .ok (.pointer none) w := fun w => by
  have h2 : ∃ i, Tryd.prog.info? 59 = some i ∧ i.zero = some (.pointer none) := by
    cases hi : Tryd.prog.info? 59 with
    | none =>
      have h1 : (Tryd.prog.info? 59).isSome = true := by kernel_rfl
      rw [hi] at h1; cases h1
    | some i =>
      refine ⟨i, rfl, ?_⟩
      have h3 : (Tryd.prog.info? 59).bind (fun i => i.zero.bind fun z => match z with | .pointer none => some () | _ => none) = some () := by kernel_rfl
      rw [hi] at h3
      simp only [Option.bind_some] at h3
      cases hz : i.zero with
      | none => rw [hz] at h3; cases h3
      | some z =>
        rw [hz] at h3
        simp only [Option.bind_some] at h3
        split at h3
        · rfl
        · cases h3
  obtain ⟨i, hi, hz⟩ := h2
  simp [zeroValue, typeInfo, hi, hz]
/-- What a closure says of a blob, wherever the store's own row stands as it may. -/
abbrev SaysT (w : World) (gc : Nat) (v : Value) (vs : List Value) (l : List Item) (p : Item → Bool) : Prop := ∀ w2 : World, (∀ k, v.ownBlock ≠ some k → w2.heap[k]? = w.heap[k]?) → ∀ (i : Nat) (x : Item) (u : Value), l[i]? = some x → vs[i]? = some u →
  Calls Tryd.prog 31 #[u, .pointer (some ⟨gc, 0, none⟩)] w2 fun e w3 => e = .returned (.bool (p x)) ∧ ∃ q, w3 = w2.drewN q
set_option maxHeartbeats 1000000 in
set_option maxRecDepth 100000 in
theorem idxT_calls {w : World} {v : Value} {vs : List Value} {l : List Item} {gc : Nat} (p : Item → Bool) (ho : OwnV w 0 59 v vs) (hvl : vs.length = l.length) (hp : SaysT w gc v vs l p) (hlen : l.length ≤ 1000000) :
    Calls Tryd.prog 40 #[v, .func (.func 31) #[] #[.pointer (some ⟨gc, 0, none⟩)]] w fun e w' => e = .returned (.int .i64 (if l.findIdx p < l.length then (l.findIdx p : Int) else -1)) ∧ ∃ q, w' = w.drewN q := by
  obtain ⟨A, c, hv, hc, _, hcell⟩ := ho.parts
  rw [hvl] at hv hc hcell
  obtain ⟨n, hn⟩ : ∃ n, Hd (l.length = n) := ⟨_, ⟨rfl⟩⟩
  obtain ⟨K, hK⟩ : ∃ K, Hd (l.findIdx p = K) := ⟨_, ⟨rfl⟩⟩
  have hKn : K ≤ n := by rw [← hK.out, ← hn.out]; exact List.findIdx_le_length
  rw [hn.out] at hv hc hcell hlen
  rw [hn.out, hK.out]
  obtain ⟨R, hR⟩ : ∃ R, Hd ((if K < n then (K : Int) else -1) = R) := ⟨_, ⟨rfl⟩⟩
  rw [hR.out]
  subst hv
  have HC := hid hcell
  have HP := hid hp
  have HVL := hid hvl
  clear hcell hp ho hvl
  go_enter Tryd.func40, Tryd.ntmps40
  go_wp2_with fail
  go_loopg [8] (n + 1) (fun kq v8 wr => ∃ i : Nat, i ≤ K ∧ v8 = .int .i64 i ∧ Hd (kq + i = n + 1) ∧ Hd (∃ q, wr = w.drewN q))
  case atStart => exact ⟨0, by omega, rfl, hid (by omega), hid ⟨0, rfl⟩⟩
  case round =>
    obtain ⟨i, hi, rfl, hq, hw⟩ := hrel
    obtain ⟨q, rfl⟩ := hw.out
    by_cases hlt : i < n
    · obtain ⟨u, hu⟩ : ∃ u, Hd (vs[i]? = some u) := ⟨_, hid (List.getElem?_eq_getElem (by rw [HVL.out, hn.out]; exact hlt))⟩
      obtain ⟨x, hx⟩ : ∃ x, Hd (l[i]? = some x) := ⟨_, hid (List.getElem?_eq_getElem (by rw [hn.out]; exact hlt))⟩
      obtain ⟨gv, hA, hce⟩ := HC.out i hlt
      subst hA
      rw [hu.out] at hce
      have hce2 : (w.drewN q).cell? ⟨gv, i, none⟩ = some u := hce
      have hlt2 : (i : Int) < n := by omega
      clear hce
      by_cases hik : i = K
      · have he : Hd (p x = true) := hid (by
          have h1 := List.findIdx_getElem (p := p) (xs := l) (w := by rw [hK.out, hn.out, ← hik]; exact hlt)
          have h2 := hx.out
          subst hik
          have h3 : l[l.findIdx p]? = some x := by rw [hK.out]; exact h2
          rw [List.getElem?_eq_getElem (by rw [hK.out, hn.out]; exact hlt)] at h3
          injection h3 with h3
          rw [← h3]; exact h1)
        have hKn2 := hid (show K < n by omega)
        subst hik
        go_wp2_with (first
          | (go_at_call 31; refine (HP.out (w.drewN q) (fun _ _ => rfl) i x u hx.out hu.out).mono ?_; rintro e w2 ⟨he2, q2, hw2⟩; rw [he.out] at he2; subst he2)
          | fail)
        go_ret
        have hR2 := hR.out; rw [if_pos hKn2.out] at hR2; subst hR2; exact ⟨rfl, q + q2, rfl⟩
      · have he : Hd (p x = false) := hid (by
          have h1 := List.not_of_lt_findIdx (xs := l) (p := p) (i := i) (by rw [hK.out]; omega)
          have h2 := hx.out
          rw [List.getElem?_eq_getElem (by rw [hn.out]; exact hlt)] at h2
          injection h2 with h2
          rw [h2] at h1
          simpa using h1)
        have hik := hid hik
        go_wp2_with (first
          | (go_at_call 31; refine (HP.out (w.drewN q) (fun _ _ => rfl) i x u hx.out hu.out).mono ?_; rintro e w2 ⟨he2, q2, hw2⟩; rw [he.out] at he2; subst he2)
          | fail)
        go_roundg (gk - 1)
        case measure => have := hq.out; omega
        case rel => exact ⟨i + 1, by have := hik.out; omega, by go_num, hid (by have := hq.out; omega), hid ⟨q + q2, rfl⟩⟩
    · have hin : i = n := by omega
      have hKn2 := hid (show ¬ K < n by omega)
      subst hin
      go_wp2_with fail
      go_ret
      have hR2 := hR.out; rw [if_neg hKn2.out] at hR2; subst hR2; exact ⟨rfl, q, rfl⟩
set_option maxHeartbeats 1000000 in
set_option maxRecDepth 100000 in
theorem delT_calls {w : World} {v : Value} {vs : List Value} {l : List Item} {gc : Nat} (p : Item → Bool) (ho : OwnV w 0 59 v vs) (hvl : vs.length = l.length) (hp : SaysT w gc v vs l p) (hu : ∀ (i : Nat) (u : Value), vs[i]? = some u → ∃ a, u = Value.pointer a) (hlen : l.length ≤ 1000000) :
    Calls Tryd.prog 30 #[v, .func (.func 31) #[] #[.pointer (some ⟨gc, 0, none⟩)]] w fun e w' => ∃ v', e = .returned v' ∧ OwnV w' 0 59 v' (keptL p vs l) ∧ (∀ k, v'.ownBlock = some k → v.ownBlock = some k) ∧ Upd (fun k => v.ownBlock = some k) w w' := by
  have HO := hid ho
  have HP := hid hp
  have HVL := hid hvl
  have HLEN := hid hlen
  have HU := hid hu
  clear hu
  obtain ⟨A, c, hv, hc, hA, hcell⟩ := ho.parts
  rw [hvl] at hv hc hcell
  obtain ⟨n, hn⟩ : ∃ n, Hd (l.length = n) := ⟨_, ⟨rfl⟩⟩
  obtain ⟨K, hK⟩ : ∃ K, Hd (l.findIdx p = K) := ⟨_, ⟨rfl⟩⟩
  have hKn : K ≤ n := by rw [← hK.out, ← hn.out]; exact List.findIdx_le_length
  rw [hn.out] at hv hc hcell hlen
  subst hv
  clear hp ho hvl
  by_cases hk : K < n
  · obtain ⟨gv, hA2, _⟩ := hcell K hk
    subst hA2
    obtain ⟨cs0, hb0, hcl0, hcv0⟩ : ∃ cs0 : List Value, Blk w gv 59 cs0 ∧ cs0.length = c ∧ ∀ a, a < n → cs0[a]? = vs[a]? := by
      rcases HO.out.2 with ⟨hno, _⟩ | ⟨g, cap, cur, hv2, _, hh, hn2, hm2, hs2, ht2⟩
      · cases hno
      · injection hv2 with h1 h2 h3
        injection h1 with h1
        injection h1 with h1
        subst h1 h3
        refine ⟨cur.toList, by unfold Blk; simpa using hh, by simpa using hs2, fun a ha => ?_⟩
        have h4 : vs[a]? = (cur.toList.take (vs.length * 1))[a]? := by rw [ht2]
        rw [h4, List.getElem?_take, if_pos (by rw [HVL.out, hn.out]; omega)]
    have hif := hid (show (if K < n then (K : Int) else -1) = K by rw [if_pos hk])
    have hne1 : ((K : Int) == -1) = false := by rw [beq_eq_false_iff_ne]; omega
    have hK0 : Hd (keptL p (vs.take (K + 1)) (l.take (K + 1)) = vs.take K) := hid (by
      obtain ⟨u, hu⟩ : ∃ u, vs[K]? = some u := ⟨_, List.getElem?_eq_getElem (by rw [HVL.out, hn.out]; exact hk)⟩
      obtain ⟨x, hx⟩ : ∃ x, l[K]? = some x := ⟨_, List.getElem?_eq_getElem (by rw [hn.out]; exact hk)⟩
      have hpx : p x = true := by
        have h1 := List.findIdx_getElem (p := p) (xs := l) (w := by rw [hK.out, hn.out]; exact hk)
        have h3 : l[l.findIdx p]? = some x := by rw [hK.out]; exact hx
        rw [List.getElem?_eq_getElem (by rw [hK.out, hn.out]; exact hk)] at h3
        injection h3 with h3
        rw [← h3]; exact h1
      rw [kept_take_succ hu hx, hpx, kept_none HVL.out K (fun j y hj hy => by
        have h1 := List.not_of_lt_findIdx (xs := l) (p := p) (i := j) (by rw [hK.out]; exact hj)
        rw [List.getElem?_eq_getElem (by rw [hn.out]; omega)] at hy
        injection hy with hy
        rw [hy] at h1
        simpa using h1) (by rw [hn.out]; exact hKn)]
      simp)
    have HIX := hid (idxT_calls p HO.out HVL.out HP.out HLEN.out)
    clear hcell hA
    go_enter Tryd.func30, Tryd.ntmps30
    go_wp2_with (first
      | (go_at_call 40; refine HIX.out.mono ?_; rintro e w1 ⟨he, q, hw1⟩; rw [hK.out, hn.out, hif.out] at he; subst he
         have hon1 : Only gv w w1 := hw1 ▸ (Only.refl gv w).drewN q
         have hb1 : Blk w1 gv 59 cs0 := hw1 ▸ hb0
         clear hw1)
      | fail)
    have hrow0 : RowSt w w1 gv c n K (K + 1) p vs l := by
      refine ⟨hon1, ⟨cs0, hb1, hcl0, fun a ha => ?_, fun a h1 h2 => hcv0 a h2⟩, ?_⟩
      · rw [hK0.out, hcv0 a (by omega), List.getElem?_take, if_pos ha]
      · rw [hK0.out, List.length_take, HVL.out, hn.out]; omega
    clear hne1
    go_loopg [5, 6] (n + 1) (fun kq v5 v6 wr => ∃ i j : Nat, v5 = .int .i64 i ∧ v6 = .int .i64 j ∧ i < j ∧ j ≤ n ∧ Hd (kq + j = n + K + 2) ∧ Hd (RowSt w wr gv c n i j p vs l))
    case atStart => exact ⟨K, K + 1, rfl, by go_num, by omega, by omega, hid (by omega), hid hrow0⟩
    case round =>
      clear hrow0
      obtain ⟨i, j, rfl, rfl, hij, hjn, hq, hst⟩ := hrel
      obtain ⟨cs, hb, hcl, hci, hcj⟩ := hst.out.row
      by_cases hlt : j < n
      · obtain ⟨u, hu⟩ : ∃ u, Hd (vs[j]? = some u) := ⟨_, hid (List.getElem?_eq_getElem (by rw [HVL.out, hn.out]; exact hlt))⟩
        obtain ⟨x, hx⟩ : ∃ x, Hd (l[j]? = some x) := ⟨_, hid (List.getElem?_eq_getElem (by rw [hn.out]; exact hlt))⟩
        have cj : wr.cell? ⟨gv, j, none⟩ = some u := by rw [hb.cell, hcj j (Nat.le_refl _) hlt]; exact hu.out
        have hlt2 : (j : Int) < n := by omega
        have hi2 : (i : Int) < n := by omega
        have HCI := hid hci
        have HCJ := hid hcj
        have HS := hid (HP.out wr (fun k hk => hst.out.only.block k (fun he => hk (by rw [he]; rfl))) j x u hx.out hu.out)
        clear hci hcj
        by_cases hpx : p x = true
        · have HPX := hid hpx
          clear hpx
          go_wp2_with (first
            | (go_at_call 31; refine HS.out.mono ?_; rintro e w2 ⟨he2, q2, hw2⟩; rw [HPX.out] at he2; subst he2)
            | fail)
          go_roundg (gk - 1)
          case measure => have := hq.out; omega
          case rel =>
            refine ⟨i, j + 1, rfl, by go_num, by omega, by omega, hid (by have := hq.out; omega), hid ⟨?_, ⟨cs, ?_, hcl, fun a ha => ?_, fun a h1 h2 => HCJ.out a (by omega) h2⟩, ?_⟩⟩
            · exact hst.out.only.drewN q2
            · exact hb
            · rw [kept_take_succ hu.out hx.out, HPX.out]; simpa using HCI.out a ha
            · rw [kept_take_succ hu.out hx.out, HPX.out]; simpa using hst.out.len
        · have HPX := hid (by simpa using hpx : p x = false)
          clear hpx
          obtain ⟨o1, ho1⟩ : ∃ o1, Hd (cs[i]? = some o1) := ⟨_, hid (List.getElem?_eq_getElem (by omega))⟩
          obtain ⟨gu, hgu⟩ : ∃ gu, u = .pointer gu := HU.out j u hu.out
          subst hgu
          go_wp2_with (first
            | (go_at_call 31; refine HS.out.mono ?_; rintro e w2 ⟨he2, q2, hw2⟩; rw [HPX.out] at he2; subst he2
               have ci2 : w2.cell? ⟨gv, i, none⟩ = some o1 := by (rw [hw2]; exact (hb.cell i).trans ho1.out)
               have fi2 : w2.frozen? ⟨gv, i, none⟩ = false := by (rw [hw2]; exact hb.frozen i)
               have hb2 : Blk w2 gv 59 cs := hw2 ▸ hb
               have hon2 : Only gv w w2 := hw2 ▸ hst.out.only.drewN q2
               clear hw2)
            | fail)
          go_roundg (gk - 1)
          case measure => have := hq.out; omega
          case rel =>
            refine ⟨i + 1, j + 1, by go_num, by go_num, by omega, by omega, hid (by have := hq.out; omega), hid ⟨?_, ⟨cs.set i (.pointer gu), ?_, by rw [List.length_set]; exact hcl, fun a ha => ?_, fun a h1 h2 => ?_⟩, ?_⟩⟩
            · exact hon2.setCell i _
            · exact hb2.set i _
            · rw [kept_take_succ hu.out hx.out, HPX.out, List.getElem?_append, hst.out.len]
              by_cases hai : a < i
              · rw [if_pos hai, List.getElem?_set_ne (by omega)]; exact HCI.out a hai
              · have : a = i := by omega
                subst this
                rw [if_neg (by omega), List.getElem?_set_self (by omega)]; simp
            · rw [List.getElem?_set_ne (by omega)]; exact HCJ.out a (by omega) h2
            · rw [kept_take_succ hu.out hx.out, HPX.out]; simp [hst.out.len]
      · have hjn2 : j = n := by omega
        subst hjn2
        have hlt2 : ¬ (j : Int) < j := by omega
        have hi2 : (i : Int) ≤ j := by omega
        have hci2 : ¬ c = i := by omega
        have hcn : Hd (∀ a, a < i → cs[a]? = (keptL p vs l)[a]?) := hid (fun a ha => by
          have := hci a ha
          rw [← hn.out, List.take_length] at this
          rw [← HVL.out, List.take_length] at this
          exact this)
        have hkl : Hd ((keptL p vs l).length = i) := hid (by
          have := hst.out.len
          rw [← hn.out, List.take_length] at this
          rw [← HVL.out, List.take_length] at this
          exact this)
        go_wp2_with (first
          | (refine clear_step rfl (.tmp 38) 56 59 rfl undFn (.pointer none) zeroPI rfl rfl gv i (j - i) (c - i) rfl (by omega) 59 cs hb (by omega) ?_; intro w3 cs3 hb3 hl3 hs3 hon3)
          | fail)
        go_ret
        refine ⟨_, rfl, ⟨by simp, .inr ⟨gv, c, cs3.toArray, by rw [hkl.out]; rfl, Nat.zero_le _, hb3, by rw [hkl.out]; omega, ?_, by simp; omega, ?_⟩⟩, fun k hk => hk, ?_⟩
        · rcases HO.out.2 with ⟨hno, _⟩ | ⟨g, cap, cur, hv2, _, hh, hn2, hm2, hs2, ht2⟩
          · cases hno
          · injection hv2 with h1 h2 h3
            omega
        · apply List.ext_getElem?
          intro a
          rw [hkl.out, Nat.mul_one, List.getElem?_take]
          by_cases ha : a < i
          · rw [if_pos ha, ← hcn.out a ha, ← hs3 a ha]
          · rw [if_neg ha, List.getElem?_eq_none (by rw [hkl.out]; omega)]
        · have hon := hst.out.only.trans hon3
          exact ⟨hon.os, hon.tape, hon.output, by rw [hon.size]; exact Nat.le_refl _, fun k _ hk => hon.block k (fun he => hk (by rw [he]; rfl))⟩
  · have hif := hid (show (if K < n then (K : Int) else -1) = -1 by rw [if_neg hk])
    have hall : Hd (keptL p vs l = vs) := hid (kept_all HVL.out (by rw [hK.out, hn.out]; exact hk))
    rw [hall.out]
    have HIX := hid (idxT_calls p HO.out HVL.out HP.out HLEN.out)
    clear hcell hA
    go_enter Tryd.func30, Tryd.ntmps30
    go_wp2_with (first
      | (go_at_call 40; refine HIX.out.mono ?_; rintro e w1 ⟨he, q, hw1⟩; rw [hK.out, hn.out, hif.out] at he; subst he
         have ho1 : OwnV w1 0 59 (.slice A n c) vs := hw1 ▸ HO.out
         have hu1 : Upd (fun k => (Value.slice A n c).ownBlock = some k) w w1 := hw1 ▸ (Upd.refl _ w).drewN q
         clear hw1)
      | fail)
    go_ret
    exact ⟨_, rfl, ho1, fun k hk => hk, hu1⟩
end Go.Proofs.YtinpilfnnmkpoaaDoor
