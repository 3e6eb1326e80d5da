import Derived.Test.YtinpilfnnmkpoaaDoorMgBH0
import Derived.Test.YtinpilfnnmkpoaaDoorMgBH1
import Derived.Test.YtinpilfnnmkpoaaDoorMgBH2
import Derived.Test.YtinpilfnnmkpoaaDoorMgBH3
import Derived.Test.YtinpilfnnmkpoaaDoorMgBH4
import Derived.Test.YtinpilfnnmkpoaaDoorMgBH5
set_option linter.unusedSimpArgs false
set_option linter.unusedVariables false
/- The law BlobHolds. -/
namespace Go.Cour
open Go.RowKit
section
variable {P : Program} {w : World} {ops : Array Oper} {rest : List Oper} {o : Oper} {a : Act} {Q : Exit → Act → World → Prop}
/-- s[p:h], p the capacity itself perhaps. -/
theorem slice_any (hw : Region.wanted o (yielded ops a.tmps) = true) (x y z : Operand) (t : TypeId) (ho : o.op = .slice t x (some y) (some z) none) (e : TypeId)
    (hu : P.underlying t = some (.slice e)) (hsz : (P.info? e).map (·.size) = some 1) (A : Option Addr) (m c p h n : Nat) (hx : a.eval x = .slice A m c) (hy : a.eval y = .int .i64 (p : Int)) (hz : a.eval z = .int .i64 (h : Int)) (hph : p ≤ h) (hhc : h ≤ c) (hn : h - p = n) (d : Option Tmp) (hd : o.dst = d)
    (hk : wpList P ops Q rest (a.put d (.slice (cutA A c p) n (c - p))) w) : wpList P ops Q (o :: rest) a w := by
  subst hd hn
  obtain ⟨i, hi, hs⟩ : ∃ i, P.info? e = some i ∧ i.size = 1 := by
    cases hie : P.info? e with
    | none => simp [hie] at hsz
    | some i => exact ⟨i, rfl, by simpa [hie] using hsz⟩
  refine wpList_step fun K hK => ?_
  rw [if_pos hw]
  have hs2 : (sizeOf e).run P w = .ok 1 w := by simp [sizeOf, typeInfo, hi, hs]
  have hrun : (Instr.slice t (.slice A m c) (some (.int .i64 (p : Int))) (some (.int .i64 (h : Int))) none).run P w = .ok (.slice (cutA A c p) (h - p) (c - p)) w := by
    simp [Instr.slice, run_underlying hu, Instr.sliceBounds, run_sliceBound, hs2, hph, hhc, cutA]
  have hrun2 : (Instr.sliceAt t (.slice A m c) (some (.int .i64 (p : Int))) (some (.int .i64 (h : Int))) none).run P w = .ok (.slice (cutA A c p) (h - p) (c - p)) w := by
    rw [← hrun]; simp [Instr.sliceAt, run_underlying hu]
  unfold Oper.wp execOp
  simp only [ho, hx, hy, hz, Option.map_some, Option.map_none]
  simp [hrun2]
  exact hK _ _ hk
end
theorem cutA_block {A : Option Addr} {c f : Nat} {a : Addr} (h : cutA A c f = some a) : ∃ b, A = some b ∧ b.block = a.block := by
  unfold cutA at h
  split at h
  · exact ⟨a, h, rfl⟩
  · cases A with
    | none => simp at h
    | some b => simp at h; exact ⟨b, rfl, by rw [← h]; simp [Addr.add]; split <;> rfl⟩
end Go.Cour
namespace Go.Proofs.YtinpilfnnmkpoaaDoor
open Go.RowKit Go.Cour
/-- Number, its answer a letter. -/
theorem numberN_calls (a b : Int) (w : World) (hb : 0 < b) (hb2 : b < 4611686018427387904) : Calls Tryd.prog 9 #[.int .i64 a, .int .i64 b] w fun e w' => ∃ k : Nat, (k : Int) < b ∧ e = .returned (.int .i64 (k : Int)) ∧ w = w' :=
  (number_calls a b w hb hb2).mono fun e w' ⟨h1, h2⟩ => ⟨(a % b).toNat, by have := Int.emod_nonneg a (show b ≠ 0 by omega); have := Int.emod_lt_of_pos a hb; omega, by rw [h1]; have := Int.emod_nonneg a (show b ≠ 0 by omega); congr 2; omega, h2.symm⟩
theorem putB_take {xs : List Int} {h f t : Nat} (hf : f ≤ h) (hh : h ≤ xs.length) (ht : f ≤ t) (htl : t ≤ xs.length) : putB (xs.take h) f ((xs.drop f).take (t - f)) = xs.take (max h t) := by
  unfold putB
  have e1 : ((xs.drop f).take (t - f)).length = t - f := by simp; omega
  rw [e1, show f + (t - f) = t by omega, List.take_take, Nat.min_eq_left hf]
  have e2 : xs.take f ++ (xs.drop f).take (t - f) = xs.take t := by
    rw [← List.take_append_drop f (xs.take t), List.take_take, Nat.min_eq_left ht, List.drop_take]
  rw [e2]
  by_cases hth : h ≤ t
  · rw [Nat.max_eq_right hth, List.drop_eq_nil_of_le (by simp; omega), List.append_nil]
  · rw [Nat.max_eq_left (by omega)]
    conv => rhs; rw [← List.take_append_drop t (xs.take h), List.take_take, Nat.min_eq_left (by omega)]
section
variable {id b bs : List Int} {n off m : Int} {d : Bool}
theorem reopenI {q l : Int} (hn : 1 ≤ n ∧ n ≤ 30000) : openE ⟨q, l, [itm id n b d]⟩ id n = some 14 ∧ openS ⟨q, l, [itm id n b d]⟩ id n = ⟨q, l, [itm id n b d]⟩ := by
  unfold openE openS
  have hp : posOf id [itm id n b d] < [itm id n b d].length := by rw [posI]; simp
  constructor
  · rw [if_neg (by omega), if_pos hp]
  · rw [if_neg (by omega), if_pos hp, touchI]
theorem gotN : getOf id off n [itm id m b false] = ([], some 16) := by
  unfold getOf; rw [getI]
  show (if (itm id m b false).done = false then ([], some 16) else _) = _
  exact if_pos (show (itm id m b false).done = false from rfl)
theorem gotR (h : (b.length : Int) - off < n) : getOf id off n [itm id m b true] = ([], some 1) := by
  unfold getOf; rw [getI]
  show (if (itm id m b true).done = false then ([], some 16) else if n < 0 ∨ 200 < n ∨ off < 0 ∨ ((itm id m b true).b.length : Int) < off ∨ ((itm id m b true).b.length : Int) - off < n then ([], some 1) else _) = _
  rw [if_neg (by simp [itm]), if_pos (by simp [itm]; omega)]
theorem putD : putOf id off bs [itm id n b true] = (0, some 16) ∧ putL id off bs [itm id n b true] = [itm id n b true] := by
  have h1 : putOf id off bs [itm id n b true] = (0, some 16) := putOf_done getI rfl
  exact ⟨h1, by rw [putL_err (by rw [h1]; simp), touchI]⟩
theorem commitN (hl : (b.length : Int) < n) : commitOf id [itm id n b false] = some 16 ∧ commitL id [itm id n b false] = [itm id n b false] := by
  have h1 : commitOf id [itm id n b false] = some 16 := by
    unfold commitOf; rw [getI]
    show (if (itm id n b false).done = true then none else if ((itm id n b false).b.length : Int) < (itm id n b false).n then some 16 else if shaOf (itm id n b false).b = id then none else some 15) = _
    rw [if_neg (by simp [itm]), if_pos (by simp [itm]; omega)]
  exact ⟨h1, by rw [commitL_err (by rw [h1]; simp), touchI]⟩
theorem commitD : commitOf id [itm id n b true] = none ∧ commitL id [itm id n b true] = [itm id n b true] := by
  have h1 : commitOf id [itm id n b true] = none := by
    unfold commitOf; rw [getI]
    show (if (itm id n b true).done = true then none else _) = _
    exact if_pos (show (itm id n b true).done = true from rfl)
  exact ⟨h1, by rw [commitL_done getI rfl, touchI]⟩
theorem statI : statOf id [itm id n b d] = ((b.length : Int), d, none) := by unfold statOf; rw [getI]; rfl
end
set_option maxHeartbeats 40000000 in
set_option maxRecDepth 100000 in
theorem blobHolds_calls (a off_ n_ : Int) (cs : List Int) (A1 : Option Addr) (nc cc : Nat) {w : World} {P : Nat → Addr} (hE : Errs w P) (hcs : cs.length = nc) (hrd : Rd w A1 .i64 cs) :
    Calls Tryd.prog 4 #[.int .i64 a, .slice A1 nc cc, .int .i64 off_, .int .i64 n_] w fun e w' => e = .returned (.bool true) ∧ Below w.heap.size w w' := by
  have hS := HS.start NoF w
  have hneq := nil_neqK
  have heql := nil_eqlK
  have HCS := hid hcs
  have HRD := hid hrd
  clear hcs hrd
  by_cases hlong : 30 < nc
  · have hl2 : (30 : Int) < nc := by omega
    go_enter Tryd.func4, Tryd.ntmps4
    go_wp2_with (first
      | (go_at_call 8; refine (first20_calls hE).mono ?_; rintro e w1 ⟨rfl, hB⟩; replace hS := hS.below hB; clear hB)
      | fail)
    go_ret
    exact ⟨rfl, hS.bel⟩
  have hl3 : (nc : Int) ≤ 30 := by omega
  have hncb : nc ≤ 30 := by omega
  clear hlong
  obtain ⟨a0, ha0, ha6⟩ : ∃ a0 : Nat, Hd (a % 6 = (a0 : Int)) ∧ a0 < 6 := ⟨(a % 6).toNat, hid (by omega), by omega⟩
  have HL := hid (contOf_length a0)
  have H8 := hid (contOf_B8 a0)
  obtain ⟨xs, hxs⟩ : ∃ xs, Hd (contOf a0 = xs) := ⟨_, hid rfl⟩
  obtain ⟨D, hD⟩ : ∃ D, Hd (shaOf xs = D) := ⟨_, hid rfl⟩
  obtain ⟨s, hs⟩ : ∃ s : Nat, Hd (20 + 40 * a0 = s) := ⟨_, hid rfl⟩
  have hsb : 20 ≤ s ∧ s ≤ 220 := by have := hs.out; omega
  rw [hxs.out, hs.out] at HL
  rw [hxs.out] at H8
  have HDL : Hd (D.length = 32) := hid (hD.out ▸ shaOf_length xs)
  have hm3 : max (3 : Int) 1 = 3 := by omega
  have hg0 := Good.nil 1000 3 (by omega)
  have HOP := hid (openI (id := D) (n := (s : Int)) (q := 1000) (l := 3) (by omega) (by omega))
  have HRE := hid (reopenI (id := D) (b := []) (d := false) (n := (s : Int)) (q := 1000) (l := 3) (by omega))
  have hgd : ∀ (b : List Int) (d : Bool), b.length ≤ s → Good ⟨1000, 3, [itm D (s : Int) b d]⟩ := fun b d hb => goodI (by omega) (by omega) (by omega)
  go_enter Tryd.func4, Tryd.ntmps4
  go_wp2_with (first
    | (go_at_call 8; refine (first20_calls hE).mono ?_; rintro e w1 ⟨rfl, hB⟩; replace hS := hS.below hB; clear hB)
    | (go_at_call 9; refine (number_calls _ _ _ (by omega) (by omega)).mono ?_; rintro e wz ⟨rfl, rfl⟩; rw [ha0.out])
    | (go_at_call 18; refine (content_calls a0 (by omega) _).mono ?_; rintro e w2 ⟨A, m, c, rfl, hm, hc, hA, hn⟩; (have hms : s = m := (by rw [← hm, hxs.out, HL.out])); subst hms; rw [hxs.out] at hn ⊢; rw [hD.out]; replace hS : HS NoF w w2 [.os 5 (.slice A s c) (ints .u8 xs)] := HS.call (A := []) hS hn (fun k hk => hk.elim); (obtain ⟨ga, oa, rfl⟩ := ((hS.os 0 rfl).rd rfl).at (by rw [HL.out]; omega)); clear hn hm hA)
    | (refine alloc_blk rfl 30 rfl _ rfl (ints .u8 (List.replicate 32 0)) zeroHashS ?_; intro g7 w3 hga hba hBa hsa; replace hS := hS.pushBlk hBa hba hga; clear hga hba hBa hsa)
    | (refine hs_storeW hS 0 rfl rfl 30 _ _ rfl rfl (ints .u8 D) rfl (ints_one' _ _) _ infoHashS (by simp [HDL.out]) (by simp) _ rfl ?_; clear hS; intro w4 hS)
    | fail)
  refine (newH 1000 3 hS).mono ?_
  rintro e w5 ⟨gs, F5, rfl, hS5⟩
  rw [hm3] at hS5
  clear hS
  have hS : HS NoF w w5 [entSto F5 gs ⟨1000, 3, []⟩, .blk g7 30 (ints .u8 D), .os 5 (.slice (some ⟨ga, oa, none⟩) s c) (ints .u8 xs)] := hS5
  clear hS5
  go_wp2_with (first
    | (refine hs_loadW hS 1 rfl rfl 30 _ rfl rfl 32 infoHashS (by simp [HDL.out]) _ arrHashS rfl _ rfl ?_)
    | fail)
  refine (openH D (s : Int) none _ hE hS hg0 HDL.out HOP.out.1 HOP.out.2).mono ?_
  rintro e w6 ⟨rfl, F6, hSn⟩
  replace hS : HS NoF w w6 [entSto F6 gs ⟨1000, 3, [itm D (s : Int) [] false]⟩, .blk g7 30 (ints .u8 D), .os 5 (.slice (some ⟨ga, oa, none⟩) s c) (ints .u8 xs)] := hSn
  clear hSn
  simp only [erV]
  go_wp2_with (first
    | (refine hs_loadW hS 1 rfl rfl 30 _ rfl rfl 32 infoHashS (by simp [HDL.out]) _ arrHashS rfl _ rfl ?_)
    | fail)
  refine (openH D (s : Int) (some 14) _ hE hS (hgd [] false (by simp)) HDL.out HRE.out.1 HRE.out.2).mono ?_
  rintro e w7 ⟨rfl, F7, hSn⟩
  replace hS : HS NoF w w7 [entSto F7 gs ⟨1000, 3, [itm D (s : Int) [] false]⟩, .blk g7 30 (ints .u8 D), .os 5 (.slice (some ⟨ga, oa, none⟩) s c) (ints .u8 xs)] := hSn
  clear hSn
  go_wp2_with (first
    | (refine hs_loadW hS 1 rfl rfl 30 _ rfl rfl 32 infoHashS (by simp [HDL.out]) _ arrHashS rfl _ rfl ?_)
    | fail)
  refine (is_erV_calls 115 (stoErrs hS hE) (some 14) (fun k hk => by injection hk with hk; omega)).mono ?_
  rintro e w8 ⟨rfl, hB⟩
  replace hS := hS.below hB
  clear hB
  go_wp2_with (first
    | (refine hs_loadW hS 1 rfl rfl 30 _ rfl rfl 32 infoHashS (by simp [HDL.out]) _ arrHashS rfl _ rfl ?_)
    | fail)
  replace hS : HS NoF w w8 [entSto F7 gs ⟨1000, 3, [itm D (s : Int) (xs.take 0) false]⟩, .blk g7 30 (ints .u8 D), .os 5 (.slice (some ⟨ga, oa, none⟩) s c) (ints .u8 xs)] := hS
  clear HOP HRE hg0
  go_loopg [13, 14, 15, 16, 17, 18, 19, 20] (nc + 1) (fun kq v13 v14 v15 v16 v17 v18 v19 v20 wr => ∃ (i p : Nat) (F : Nat → Prop), i ≤ nc ∧ p ≤ s ∧ v13 = .int .i64 p ∧ v14 = .int .i64 i ∧ Hd (kq + i = nc + 1) ∧ HS NoF w wr [entSto F gs ⟨1000, 3, [itm D (s : Int) (xs.take p) false]⟩, .blk g7 30 (ints .u8 D), .os 5 (.slice (some ⟨ga, oa, none⟩) s c) (ints .u8 xs)])
  case atStart => exact ⟨0, 0, F7, Nat.zero_le _, Nat.zero_le _, rfl, rfl, hid (by omega), hS⟩
  case round =>
    clear hS
    obtain ⟨i, p, F, hi, hps, rfl, rfl, hq, hS⟩ := hrel
    by_cases hlt : i < nc
    · have hlt2 : (i : Int) < nc := by omega
      obtain ⟨g1, o1, rfl⟩ := HRD.out.at (by rw [HCS.out]; omega)
      obtain ⟨x, hx⟩ : ∃ x, Hd (rd cs i = x) := ⟨_, hid rfl⟩
      have hcell0 := HRD.out.cellAt i (by rw [HCS.out]; exact hlt)
      rw [hx.out] at hcell0
      have hcell := hid (hS.oldCell hcell0 (fun h => h))
      clear hcell0
      have hcw := hcell.out
      go_wp2_with (first
        | (have _ := mk0; go_at_call 9; (refine (numberN_calls _ 60 _ (by omega) (by omega)).mono ?_); rintro e wz ⟨t0, ht0, rfl, rfl⟩; have mk1 : True := trivial)
        | (go_at_call 9; (refine (numberN_calls _ ((p : Int) + 1) _ (by omega) (by omega)).mono ?_); rintro e wz ⟨f, hf, rfl, rfl⟩; have mk0 : True := trivial)
        | fail)
      · by_cases hpt : p < s
        · have hpt2 : (p : Int) < s := by omega
          have hft : f ≤ s ∧ s ≤ s := by omega
          have hmx := hid (show max p s = s by omega)
          have hpq : p < s := by omega
          have hqs : s ≤ s := by omega
          have HPI := hid (putI (id := D) (n := (s : Int)) (off := (f : Int)) (b := xs.take p) (bs := (xs.drop f).take (s - f)) (by simp [HL.out]; omega) (by simp [HL.out]; omega))
          have HPT := hid (putB_take (xs := xs) (h := p) (f := f) (t := s) (by omega) (by rw [HL.out]; omega) (by omega) (by rw [HL.out]; omega))
          rw [hmx.out] at HPT
          have HPI2 : Hd (putOf D (f : Int) ((xs.drop f).take (s - f)) [itm D (s : Int) (xs.take p) false] = ((s : Int), none) ∧ putL D (f : Int) ((xs.drop f).take (s - f)) [itm D (s : Int) (xs.take p) false] = [itm D (s : Int) (xs.take s) false]) := hid (by have h1 := HPI.out; rw [Int.toNat_natCast, HPT.out] at h1; rw [h1.1, h1.2]; refine ⟨?_, rfl⟩; first | (simp [HL.out]; done) | (simp [HL.out]; omega))
          try go_wp2_with fail
          refine wp_region_S (F := NoF) (w0 := w) (L0 := [entSto F gs ⟨1000, 3, [itm D (s : Int) (xs.take p) false]⟩, .blk g7 30 (ints .u8 D), .os 5 (.slice (some ⟨ga, oa, none⟩) s c) (ints .u8 xs)]) [] [7]
            (fun iK u E => match iK with
              | _ => False)
            ([]) (by kernel_rfl) (by kernel_rfl) hS ?_
          show wpS _ _ _ _ _ _ _ _ _ _ [0, 1, 2, 3, 4, 5, 6, 7, 8, 9, 10, 11, 12] _
          apply wpS_read (i := 0) rfl rfl ⟨_, hS⟩ rfl -- Op.move t12
          · intro w' hT'
            simp only [List.getElem_toArray, List.getElem_cons_zero, List.getElem_cons_succ]
            go_wp2_with fail
            first | exact ⟨rfl, rfl, rfl⟩ | rfl
          apply wpS_read (i := 1) rfl rfl ⟨_, hS⟩ rfl -- Op.load 30 t11
          · intro w' hT'
            simp only [List.getElem_toArray, List.getElem_cons_zero, List.getElem_cons_succ]
            go_wp2_with (first
              | ((refine hs_loadW hT' 1 rfl rfl 30 _ rfl rfl 32 infoHashS (by simp [HDL.out]) _ arrHashS rfl _ rfl ?_))
              | (refine slice_any rfl _ _ _ 41 rfl 5 undBytesS sizeU8S _ s c f s (s - f) rfl rfl rfl (by omega) (by omega) rfl _ rfl ?_)
              | fail)
            first | exact ⟨rfl, rfl, rfl⟩ | rfl
          apply wpS_read (i := 2) rfl rfl ⟨_, hS⟩ rfl -- Op.move t15
          · intro w' hT'
            simp only [List.getElem_toArray, List.getElem_cons_zero, List.getElem_cons_succ]
            go_wp2_with fail
            first | exact ⟨rfl, rfl, rfl⟩ | rfl
          apply wpS_read (i := 3) rfl rfl ⟨_, hS⟩ rfl -- Op.move t10
          · intro w' hT'
            simp only [List.getElem_toArray, List.getElem_cons_zero, List.getElem_cons_succ]
            go_wp2_with fail
            first | exact ⟨rfl, rfl, rfl⟩ | rfl
          apply wpS_read (i := 4) rfl rfl ⟨_, hS⟩ rfl -- Op.move t15
          · intro w' hT'
            simp only [List.getElem_toArray, List.getElem_cons_zero, List.getElem_cons_succ]
            go_wp2_with fail
            first | exact ⟨rfl, rfl, rfl⟩ | rfl
          apply wpS_read (i := 5) rfl rfl ⟨_, hS⟩ rfl -- Op.move t16
          · intro w' hT'
            simp only [List.getElem_toArray, List.getElem_cons_zero, List.getElem_cons_succ]
            go_wp2_with fail
            first | exact ⟨rfl, rfl, rfl⟩ | rfl
          apply wpS_read (i := 6) rfl rfl ⟨_, hS⟩ rfl -- Op.slice 41 t93 (some t94) (some t95) none
          · intro w' hT'
            simp only [List.getElem_toArray, List.getElem_cons_zero, List.getElem_cons_succ]
            go_wp2_with (first
              | ((refine hs_loadW hT' 1 rfl rfl 30 _ rfl rfl 32 infoHashS (by simp [HDL.out]) _ arrHashS rfl _ rfl ?_))
              | (refine slice_any rfl _ _ _ 41 rfl 5 undBytesS sizeU8S _ s c f s (s - f) rfl rfl rfl (by omega) (by omega) rfl _ rfl ?_)
              | fail)
            first | exact ⟨rfl, rfl, rfl⟩ | rfl
          refine wpS_tot (i := 7) rfl rfl (by kernel_rfl) ?_ -- Op.call { value (Operand.func 19), args := #[t90, t91, t92, t96], ar
          intro w7 hT
          replace hT : HS NoF w w7 [entSto F gs ⟨1000, 3, [itm D (s : Int) (xs.take p) false]⟩, .blk g7 30 (ints .u8 D), .os 5 (.slice (some ⟨ga, oa, none⟩) s c) (ints .u8 xs)] := hT
          simp only [List.getElem_toArray, List.getElem_cons_zero, List.getElem_cons_succ]
          go_wp2_with (first
            | (go_at_call 19; (refine (putH D (f : Int) ((xs.drop f).take (s - f)) (cutA (some ⟨ga, oa, none⟩) c f) (s - f) (c - f) ((s : Int), none) [itm D (s : Int) (xs.take s) false] hE hT (hgd _ _ (by rw [List.length_take, HL.out]; omega)) HDL.out (by omega) (by rw [List.length_take, List.length_drop, HL.out]; omega) (by omega) (by omega) (fun h => cutA_none (fun h => by cases h) h) ((rd_from ((hT.os 2 rfl).rd rfl) (fun hf => cutA_some (m := s) (by rw [HL.out] at hf; exact hf) hc)).take _) (fun a ha hne hF => by obtain ⟨b, hb1, hb2⟩ := cutA_block ha; injection hb1 with hb1; subst hb1; exact hT.mem.apart (i := 0) (j := 2) rfl rfl (by decide) a.block hF (by rw [← hb2]; rfl)) HPI2.out.1 HPI2.out.2).mono ?_); rintro e wq ⟨rfl, F1, hSn⟩; (replace hT : HS NoF w wq [entSto F1 gs ⟨1000, 3, [itm D (s : Int) (xs.take s) false]⟩, .blk g7 30 (ints .u8 D), .os 5 (.slice (some ⟨ga, oa, none⟩) s c) (ints .u8 xs)] := hSn); clear hSn)
            | fail)
          refine TotP.mk' ([entSto F1 gs ⟨1000, 3, [itm D (s : Int) (xs.take s) false]⟩, .blk g7 30 (ints .u8 D), .os 5 (.slice (some ⟨ga, oa, none⟩) s c) (ints .u8 xs)]) rfl ?_ ?_
          · exact hT
          have hSr := hT
          clear hT
          apply wpS_read (i := 8) rfl rfl ⟨_, hSr⟩ rfl -- Op.move t97
          · intro w' hT'
            simp only [List.getElem_toArray, List.getElem_cons_zero, List.getElem_cons_succ]
            go_wp2_with fail
            first | exact ⟨rfl, rfl, rfl⟩ | rfl
          apply wpS_read (i := 9) rfl rfl ⟨_, hSr⟩ rfl -- Op.extract t89 0
          · intro w' hT'
            simp only [List.getElem_toArray, List.getElem_cons_zero, List.getElem_cons_succ]
            go_wp2_with fail
            first | exact ⟨rfl, rfl, rfl⟩ | rfl
          apply wpS_read (i := 10) rfl rfl ⟨_, hSr⟩ rfl -- Op.extract t89 1
          · intro w' hT'
            simp only [List.getElem_toArray, List.getElem_cons_zero, List.getElem_cons_succ]
            go_wp2_with fail
            first | exact ⟨rfl, rfl, rfl⟩ | rfl
          apply wpS_read (i := 11) rfl rfl ⟨_, hSr⟩ rfl -- Op.assign t98
          · intro w' hT'
            simp only [List.getElem_toArray, List.getElem_cons_zero, List.getElem_cons_succ]
            go_wp2_with fail
            first | exact ⟨rfl, rfl, rfl⟩ | rfl
          apply wpS_read (i := 12) rfl rfl ⟨_, hSr⟩ rfl -- Op.assign t99
          · intro w' hT'
            simp only [List.getElem_toArray, List.getElem_cons_zero, List.getElem_cons_succ]
            go_wp2_with fail
            first | exact ⟨rfl, rfl, rfl⟩ | rfl
          refine wpS_end ?_
          intro wz hT
          try dsimp only
          rw [List.nil_append] at hT
          clear hS hSr
          have hS := hT
          clear hT
          simp only [erV]
          go_wp2_with (first
            | (refine hs_loadW hS 1 rfl rfl 30 _ rfl rfl 32 infoHashS (by simp [HDL.out]) _ arrHashS rfl _ rfl ?_)
            | fail)
          refine (getH D 0 0 ([], some 16) [itm D (s : Int) (xs.take s) false] hE hS (hgd _ _ (by rw [List.length_take, HL.out]; omega)) HDL.out (by omega) (by omega) gotN touchI).mono ?_
          rintro e w9 ⟨A5, m5, c5, rfl, hm5, hc5, hA5, F2, hS2⟩
          clear hS hm5 hc5 hA5
          have hS := hS2.erase 1
          clear hS2
          go_wp2_with (first
            | (refine hs_loadW hS 1 rfl rfl 30 _ rfl rfl 32 infoHashS (by simp [HDL.out]) _ arrHashS rfl _ rfl ?_)
            | fail)
          refine (is_erV_calls 117 (stoErrs hS hE) (some 16) (fun k hk => by injection hk with hk; omega)).mono ?_
          rintro e w10 ⟨rfl, hB⟩
          replace hS := hS.below hB
          clear hB
          go_wp2_with (first
            | (refine hs_loadW hS 1 rfl rfl 30 _ rfl rfl 32 infoHashS (by simp [HDL.out]) _ arrHashS rfl _ rfl ?_)
            | fail)
          go_roundg (gk - 1)
          case measure => have := hq.out; omega
          case rel => exact ⟨i + 1, s, F2, by omega, hqs, rfl, rfl, hid (by have := hq.out; omega), hS⟩
        · have hpt2 : ¬ (p : Int) < s := by omega
          have hft : f ≤ s ∧ s ≤ s := by omega
          have hmx := hid (show max p s = p by omega)
          have hpq : ¬ p < s := by omega
          have hqs : p ≤ s := by omega
          have HPI := hid (putI (id := D) (n := (s : Int)) (off := (f : Int)) (b := xs.take p) (bs := (xs.drop f).take (s - f)) (by simp [HL.out]; omega) (by simp [HL.out]; omega))
          have HPT := hid (putB_take (xs := xs) (h := p) (f := f) (t := s) (by omega) (by rw [HL.out]; omega) (by omega) (by rw [HL.out]; omega))
          rw [hmx.out] at HPT
          have HPI2 : Hd (putOf D (f : Int) ((xs.drop f).take (s - f)) [itm D (s : Int) (xs.take p) false] = ((p : Int), none) ∧ putL D (f : Int) ((xs.drop f).take (s - f)) [itm D (s : Int) (xs.take p) false] = [itm D (s : Int) (xs.take p) false]) := hid (by have h1 := HPI.out; rw [Int.toNat_natCast, HPT.out] at h1; rw [h1.1, h1.2]; refine ⟨?_, rfl⟩; first | (simp [HL.out]; done) | (simp [HL.out]; omega))
          try go_wp2_with fail
          refine wp_region_S (F := NoF) (w0 := w) (L0 := [entSto F gs ⟨1000, 3, [itm D (s : Int) (xs.take p) false]⟩, .blk g7 30 (ints .u8 D), .os 5 (.slice (some ⟨ga, oa, none⟩) s c) (ints .u8 xs)]) [] [7]
            (fun iK u E => match iK with
              | _ => False)
            ([]) (by kernel_rfl) (by kernel_rfl) hS ?_
          show wpS _ _ _ _ _ _ _ _ _ _ [0, 1, 2, 3, 4, 5, 6, 7, 8, 9, 10, 11, 12] _
          apply wpS_read (i := 0) rfl rfl ⟨_, hS⟩ rfl -- Op.move t12
          · intro w' hT'
            simp only [List.getElem_toArray, List.getElem_cons_zero, List.getElem_cons_succ]
            go_wp2_with fail
            first | exact ⟨rfl, rfl, rfl⟩ | rfl
          apply wpS_read (i := 1) rfl rfl ⟨_, hS⟩ rfl -- Op.load 30 t11
          · intro w' hT'
            simp only [List.getElem_toArray, List.getElem_cons_zero, List.getElem_cons_succ]
            go_wp2_with (first
              | ((refine hs_loadW hT' 1 rfl rfl 30 _ rfl rfl 32 infoHashS (by simp [HDL.out]) _ arrHashS rfl _ rfl ?_))
              | (refine slice_any rfl _ _ _ 41 rfl 5 undBytesS sizeU8S _ s c f s (s - f) rfl rfl rfl (by omega) (by omega) rfl _ rfl ?_)
              | fail)
            first | exact ⟨rfl, rfl, rfl⟩ | rfl
          apply wpS_read (i := 2) rfl rfl ⟨_, hS⟩ rfl -- Op.move t15
          · intro w' hT'
            simp only [List.getElem_toArray, List.getElem_cons_zero, List.getElem_cons_succ]
            go_wp2_with fail
            first | exact ⟨rfl, rfl, rfl⟩ | rfl
          apply wpS_read (i := 3) rfl rfl ⟨_, hS⟩ rfl -- Op.move t10
          · intro w' hT'
            simp only [List.getElem_toArray, List.getElem_cons_zero, List.getElem_cons_succ]
            go_wp2_with fail
            first | exact ⟨rfl, rfl, rfl⟩ | rfl
          apply wpS_read (i := 4) rfl rfl ⟨_, hS⟩ rfl -- Op.move t15
          · intro w' hT'
            simp only [List.getElem_toArray, List.getElem_cons_zero, List.getElem_cons_succ]
            go_wp2_with fail
            first | exact ⟨rfl, rfl, rfl⟩ | rfl
          apply wpS_read (i := 5) rfl rfl ⟨_, hS⟩ rfl -- Op.move t16
          · intro w' hT'
            simp only [List.getElem_toArray, List.getElem_cons_zero, List.getElem_cons_succ]
            go_wp2_with fail
            first | exact ⟨rfl, rfl, rfl⟩ | rfl
          apply wpS_read (i := 6) rfl rfl ⟨_, hS⟩ rfl -- Op.slice 41 t93 (some t94) (some t95) none
          · intro w' hT'
            simp only [List.getElem_toArray, List.getElem_cons_zero, List.getElem_cons_succ]
            go_wp2_with (first
              | ((refine hs_loadW hT' 1 rfl rfl 30 _ rfl rfl 32 infoHashS (by simp [HDL.out]) _ arrHashS rfl _ rfl ?_))
              | (refine slice_any rfl _ _ _ 41 rfl 5 undBytesS sizeU8S _ s c f s (s - f) rfl rfl rfl (by omega) (by omega) rfl _ rfl ?_)
              | fail)
            first | exact ⟨rfl, rfl, rfl⟩ | rfl
          refine wpS_tot (i := 7) rfl rfl (by kernel_rfl) ?_ -- Op.call { value (Operand.func 19), args := #[t90, t91, t92, t96], ar
          intro w7 hT
          replace hT : HS NoF w w7 [entSto F gs ⟨1000, 3, [itm D (s : Int) (xs.take p) false]⟩, .blk g7 30 (ints .u8 D), .os 5 (.slice (some ⟨ga, oa, none⟩) s c) (ints .u8 xs)] := hT
          simp only [List.getElem_toArray, List.getElem_cons_zero, List.getElem_cons_succ]
          go_wp2_with (first
            | (go_at_call 19; (refine (putH D (f : Int) ((xs.drop f).take (s - f)) (cutA (some ⟨ga, oa, none⟩) c f) (s - f) (c - f) ((p : Int), none) [itm D (s : Int) (xs.take p) false] hE hT (hgd _ _ (by rw [List.length_take, HL.out]; omega)) HDL.out (by omega) (by rw [List.length_take, List.length_drop, HL.out]; omega) (by omega) (by omega) (fun h => cutA_none (fun h => by cases h) h) ((rd_from ((hT.os 2 rfl).rd rfl) (fun hf => cutA_some (m := s) (by rw [HL.out] at hf; exact hf) hc)).take _) (fun a ha hne hF => by obtain ⟨b, hb1, hb2⟩ := cutA_block ha; injection hb1 with hb1; subst hb1; exact hT.mem.apart (i := 0) (j := 2) rfl rfl (by decide) a.block hF (by rw [← hb2]; rfl)) HPI2.out.1 HPI2.out.2).mono ?_); rintro e wq ⟨rfl, F1, hSn⟩; (replace hT : HS NoF w wq [entSto F1 gs ⟨1000, 3, [itm D (s : Int) (xs.take p) false]⟩, .blk g7 30 (ints .u8 D), .os 5 (.slice (some ⟨ga, oa, none⟩) s c) (ints .u8 xs)] := hSn); clear hSn)
            | fail)
          refine TotP.mk' ([entSto F1 gs ⟨1000, 3, [itm D (s : Int) (xs.take p) false]⟩, .blk g7 30 (ints .u8 D), .os 5 (.slice (some ⟨ga, oa, none⟩) s c) (ints .u8 xs)]) rfl ?_ ?_
          · exact hT
          have hSr := hT
          clear hT
          apply wpS_read (i := 8) rfl rfl ⟨_, hSr⟩ rfl -- Op.move t97
          · intro w' hT'
            simp only [List.getElem_toArray, List.getElem_cons_zero, List.getElem_cons_succ]
            go_wp2_with fail
            first | exact ⟨rfl, rfl, rfl⟩ | rfl
          apply wpS_read (i := 9) rfl rfl ⟨_, hSr⟩ rfl -- Op.extract t89 0
          · intro w' hT'
            simp only [List.getElem_toArray, List.getElem_cons_zero, List.getElem_cons_succ]
            go_wp2_with fail
            first | exact ⟨rfl, rfl, rfl⟩ | rfl
          apply wpS_read (i := 10) rfl rfl ⟨_, hSr⟩ rfl -- Op.extract t89 1
          · intro w' hT'
            simp only [List.getElem_toArray, List.getElem_cons_zero, List.getElem_cons_succ]
            go_wp2_with fail
            first | exact ⟨rfl, rfl, rfl⟩ | rfl
          apply wpS_read (i := 11) rfl rfl ⟨_, hSr⟩ rfl -- Op.assign t98
          · intro w' hT'
            simp only [List.getElem_toArray, List.getElem_cons_zero, List.getElem_cons_succ]
            go_wp2_with fail
            first | exact ⟨rfl, rfl, rfl⟩ | rfl
          apply wpS_read (i := 12) rfl rfl ⟨_, hSr⟩ rfl -- Op.assign t99
          · intro w' hT'
            simp only [List.getElem_toArray, List.getElem_cons_zero, List.getElem_cons_succ]
            go_wp2_with fail
            first | exact ⟨rfl, rfl, rfl⟩ | rfl
          refine wpS_end ?_
          intro wz hT
          try dsimp only
          rw [List.nil_append] at hT
          clear hS hSr
          have hS := hT
          clear hT
          simp only [erV]
          go_wp2_with (first
            | (refine hs_loadW hS 1 rfl rfl 30 _ rfl rfl 32 infoHashS (by simp [HDL.out]) _ arrHashS rfl _ rfl ?_)
            | fail)
          refine (getH D 0 0 ([], some 16) [itm D (s : Int) (xs.take p) false] hE hS (hgd _ _ (by rw [List.length_take, HL.out]; omega)) HDL.out (by omega) (by omega) gotN touchI).mono ?_
          rintro e w9 ⟨A5, m5, c5, rfl, hm5, hc5, hA5, F2, hS2⟩
          clear hS hm5 hc5 hA5
          have hS := hS2.erase 1
          clear hS2
          go_wp2_with (first
            | (refine hs_loadW hS 1 rfl rfl 30 _ rfl rfl 32 infoHashS (by simp [HDL.out]) _ arrHashS rfl _ rfl ?_)
            | fail)
          refine (is_erV_calls 117 (stoErrs hS hE) (some 16) (fun k hk => by injection hk with hk; omega)).mono ?_
          rintro e w10 ⟨rfl, hB⟩
          replace hS := hS.below hB
          clear hB
          go_wp2_with (first
            | (refine hs_loadW hS 1 rfl rfl 30 _ rfl rfl 32 infoHashS (by simp [HDL.out]) _ arrHashS rfl _ rfl ?_)
            | fail)
          go_roundg (gk - 1)
          case measure => have := hq.out; omega
          case rel => exact ⟨i + 1, p, F2, by omega, hqs, rfl, rfl, hid (by have := hq.out; omega), hS⟩
      · obtain ⟨t, ht⟩ : ∃ t : Nat, (f : Int) + t0 = t := ⟨f + t0, by omega⟩
        rw [ht]
        by_cases hpt : p < t
        · have hpt2 : (p : Int) < t := by omega
          have hft : f ≤ t ∧ t ≤ s := by omega
          have hmx := hid (show max p t = t by omega)
          have hpq : p < t := by omega
          have hqs : t ≤ s := by omega
          have HPI := hid (putI (id := D) (n := (s : Int)) (off := (f : Int)) (b := xs.take p) (bs := (xs.drop f).take (t - f)) (by simp [HL.out]; omega) (by simp [HL.out]; omega))
          have HPT := hid (putB_take (xs := xs) (h := p) (f := f) (t := t) (by omega) (by rw [HL.out]; omega) (by omega) (by rw [HL.out]; omega))
          rw [hmx.out] at HPT
          have HPI2 : Hd (putOf D (f : Int) ((xs.drop f).take (t - f)) [itm D (s : Int) (xs.take p) false] = ((t : Int), none) ∧ putL D (f : Int) ((xs.drop f).take (t - f)) [itm D (s : Int) (xs.take p) false] = [itm D (s : Int) (xs.take t) false]) := hid (by have h1 := HPI.out; rw [Int.toNat_natCast, HPT.out] at h1; rw [h1.1, h1.2]; refine ⟨?_, rfl⟩; first | (simp [HL.out]; done) | (simp [HL.out]; omega))
          try go_wp2_with fail
          refine wp_region_S (F := NoF) (w0 := w) (L0 := [entSto F gs ⟨1000, 3, [itm D (s : Int) (xs.take p) false]⟩, .blk g7 30 (ints .u8 D), .os 5 (.slice (some ⟨ga, oa, none⟩) s c) (ints .u8 xs)]) [] [7]
            (fun iK u E => match iK with
              | _ => False)
            ([]) (by kernel_rfl) (by kernel_rfl) hS ?_
          show wpS _ _ _ _ _ _ _ _ _ _ [0, 1, 2, 3, 4, 5, 6, 7, 8, 9, 10, 11, 12] _
          apply wpS_read (i := 0) rfl rfl ⟨_, hS⟩ rfl -- Op.move t12
          · intro w' hT'
            simp only [List.getElem_toArray, List.getElem_cons_zero, List.getElem_cons_succ]
            go_wp2_with fail
            first | exact ⟨rfl, rfl, rfl⟩ | rfl
          apply wpS_read (i := 1) rfl rfl ⟨_, hS⟩ rfl -- Op.load 30 t11
          · intro w' hT'
            simp only [List.getElem_toArray, List.getElem_cons_zero, List.getElem_cons_succ]
            go_wp2_with (first
              | ((refine hs_loadW hT' 1 rfl rfl 30 _ rfl rfl 32 infoHashS (by simp [HDL.out]) _ arrHashS rfl _ rfl ?_))
              | (refine slice_any rfl _ _ _ 41 rfl 5 undBytesS sizeU8S _ s c f t (t - f) rfl rfl rfl (by omega) (by omega) rfl _ rfl ?_)
              | fail)
            first | exact ⟨rfl, rfl, rfl⟩ | rfl
          apply wpS_read (i := 2) rfl rfl ⟨_, hS⟩ rfl -- Op.move t15
          · intro w' hT'
            simp only [List.getElem_toArray, List.getElem_cons_zero, List.getElem_cons_succ]
            go_wp2_with fail
            first | exact ⟨rfl, rfl, rfl⟩ | rfl
          apply wpS_read (i := 3) rfl rfl ⟨_, hS⟩ rfl -- Op.move t10
          · intro w' hT'
            simp only [List.getElem_toArray, List.getElem_cons_zero, List.getElem_cons_succ]
            go_wp2_with fail
            first | exact ⟨rfl, rfl, rfl⟩ | rfl
          apply wpS_read (i := 4) rfl rfl ⟨_, hS⟩ rfl -- Op.move t15
          · intro w' hT'
            simp only [List.getElem_toArray, List.getElem_cons_zero, List.getElem_cons_succ]
            go_wp2_with fail
            first | exact ⟨rfl, rfl, rfl⟩ | rfl
          apply wpS_read (i := 5) rfl rfl ⟨_, hS⟩ rfl -- Op.move t16
          · intro w' hT'
            simp only [List.getElem_toArray, List.getElem_cons_zero, List.getElem_cons_succ]
            go_wp2_with fail
            first | exact ⟨rfl, rfl, rfl⟩ | rfl
          apply wpS_read (i := 6) rfl rfl ⟨_, hS⟩ rfl -- Op.slice 41 t93 (some t94) (some t95) none
          · intro w' hT'
            simp only [List.getElem_toArray, List.getElem_cons_zero, List.getElem_cons_succ]
            go_wp2_with (first
              | ((refine hs_loadW hT' 1 rfl rfl 30 _ rfl rfl 32 infoHashS (by simp [HDL.out]) _ arrHashS rfl _ rfl ?_))
              | (refine slice_any rfl _ _ _ 41 rfl 5 undBytesS sizeU8S _ s c f t (t - f) rfl rfl rfl (by omega) (by omega) rfl _ rfl ?_)
              | fail)
            first | exact ⟨rfl, rfl, rfl⟩ | rfl
          refine wpS_tot (i := 7) rfl rfl (by kernel_rfl) ?_ -- Op.call { value (Operand.func 19), args := #[t90, t91, t92, t96], ar
          intro w7 hT
          replace hT : HS NoF w w7 [entSto F gs ⟨1000, 3, [itm D (s : Int) (xs.take p) false]⟩, .blk g7 30 (ints .u8 D), .os 5 (.slice (some ⟨ga, oa, none⟩) s c) (ints .u8 xs)] := hT
          simp only [List.getElem_toArray, List.getElem_cons_zero, List.getElem_cons_succ]
          go_wp2_with (first
            | (go_at_call 19; (refine (putH D (f : Int) ((xs.drop f).take (t - f)) (cutA (some ⟨ga, oa, none⟩) c f) (t - f) (c - f) ((t : Int), none) [itm D (s : Int) (xs.take t) false] hE hT (hgd _ _ (by rw [List.length_take, HL.out]; omega)) HDL.out (by omega) (by rw [List.length_take, List.length_drop, HL.out]; omega) (by omega) (by omega) (fun h => cutA_none (fun h => by cases h) h) ((rd_from ((hT.os 2 rfl).rd rfl) (fun hf => cutA_some (m := s) (by rw [HL.out] at hf; exact hf) hc)).take _) (fun a ha hne hF => by obtain ⟨b, hb1, hb2⟩ := cutA_block ha; injection hb1 with hb1; subst hb1; exact hT.mem.apart (i := 0) (j := 2) rfl rfl (by decide) a.block hF (by rw [← hb2]; rfl)) HPI2.out.1 HPI2.out.2).mono ?_); rintro e wq ⟨rfl, F1, hSn⟩; (replace hT : HS NoF w wq [entSto F1 gs ⟨1000, 3, [itm D (s : Int) (xs.take t) false]⟩, .blk g7 30 (ints .u8 D), .os 5 (.slice (some ⟨ga, oa, none⟩) s c) (ints .u8 xs)] := hSn); clear hSn)
            | fail)
          refine TotP.mk' ([entSto F1 gs ⟨1000, 3, [itm D (s : Int) (xs.take t) false]⟩, .blk g7 30 (ints .u8 D), .os 5 (.slice (some ⟨ga, oa, none⟩) s c) (ints .u8 xs)]) rfl ?_ ?_
          · exact hT
          have hSr := hT
          clear hT
          apply wpS_read (i := 8) rfl rfl ⟨_, hSr⟩ rfl -- Op.move t97
          · intro w' hT'
            simp only [List.getElem_toArray, List.getElem_cons_zero, List.getElem_cons_succ]
            go_wp2_with fail
            first | exact ⟨rfl, rfl, rfl⟩ | rfl
          apply wpS_read (i := 9) rfl rfl ⟨_, hSr⟩ rfl -- Op.extract t89 0
          · intro w' hT'
            simp only [List.getElem_toArray, List.getElem_cons_zero, List.getElem_cons_succ]
            go_wp2_with fail
            first | exact ⟨rfl, rfl, rfl⟩ | rfl
          apply wpS_read (i := 10) rfl rfl ⟨_, hSr⟩ rfl -- Op.extract t89 1
          · intro w' hT'
            simp only [List.getElem_toArray, List.getElem_cons_zero, List.getElem_cons_succ]
            go_wp2_with fail
            first | exact ⟨rfl, rfl, rfl⟩ | rfl
          apply wpS_read (i := 11) rfl rfl ⟨_, hSr⟩ rfl -- Op.assign t98
          · intro w' hT'
            simp only [List.getElem_toArray, List.getElem_cons_zero, List.getElem_cons_succ]
            go_wp2_with fail
            first | exact ⟨rfl, rfl, rfl⟩ | rfl
          apply wpS_read (i := 12) rfl rfl ⟨_, hSr⟩ rfl -- Op.assign t99
          · intro w' hT'
            simp only [List.getElem_toArray, List.getElem_cons_zero, List.getElem_cons_succ]
            go_wp2_with fail
            first | exact ⟨rfl, rfl, rfl⟩ | rfl
          refine wpS_end ?_
          intro wz hT
          try dsimp only
          rw [List.nil_append] at hT
          clear hS hSr
          have hS := hT
          clear hT
          simp only [erV]
          go_wp2_with (first
            | (refine hs_loadW hS 1 rfl rfl 30 _ rfl rfl 32 infoHashS (by simp [HDL.out]) _ arrHashS rfl _ rfl ?_)
            | fail)
          refine (getH D 0 0 ([], some 16) [itm D (s : Int) (xs.take t) false] hE hS (hgd _ _ (by rw [List.length_take, HL.out]; omega)) HDL.out (by omega) (by omega) gotN touchI).mono ?_
          rintro e w9 ⟨A5, m5, c5, rfl, hm5, hc5, hA5, F2, hS2⟩
          clear hS hm5 hc5 hA5
          have hS := hS2.erase 1
          clear hS2
          go_wp2_with (first
            | (refine hs_loadW hS 1 rfl rfl 30 _ rfl rfl 32 infoHashS (by simp [HDL.out]) _ arrHashS rfl _ rfl ?_)
            | fail)
          refine (is_erV_calls 117 (stoErrs hS hE) (some 16) (fun k hk => by injection hk with hk; omega)).mono ?_
          rintro e w10 ⟨rfl, hB⟩
          replace hS := hS.below hB
          clear hB
          go_wp2_with (first
            | (refine hs_loadW hS 1 rfl rfl 30 _ rfl rfl 32 infoHashS (by simp [HDL.out]) _ arrHashS rfl _ rfl ?_)
            | fail)
          go_roundg (gk - 1)
          case measure => have := hq.out; omega
          case rel => exact ⟨i + 1, t, F2, by omega, hqs, rfl, rfl, hid (by have := hq.out; omega), hS⟩
        · have hpt2 : ¬ (p : Int) < t := by omega
          have hft : f ≤ t ∧ t ≤ s := by omega
          have hmx := hid (show max p t = p by omega)
          have hpq : ¬ p < t := by omega
          have hqs : p ≤ s := by omega
          have HPI := hid (putI (id := D) (n := (s : Int)) (off := (f : Int)) (b := xs.take p) (bs := (xs.drop f).take (t - f)) (by simp [HL.out]; omega) (by simp [HL.out]; omega))
          have HPT := hid (putB_take (xs := xs) (h := p) (f := f) (t := t) (by omega) (by rw [HL.out]; omega) (by omega) (by rw [HL.out]; omega))
          rw [hmx.out] at HPT
          have HPI2 : Hd (putOf D (f : Int) ((xs.drop f).take (t - f)) [itm D (s : Int) (xs.take p) false] = ((p : Int), none) ∧ putL D (f : Int) ((xs.drop f).take (t - f)) [itm D (s : Int) (xs.take p) false] = [itm D (s : Int) (xs.take p) false]) := hid (by have h1 := HPI.out; rw [Int.toNat_natCast, HPT.out] at h1; rw [h1.1, h1.2]; refine ⟨?_, rfl⟩; first | (simp [HL.out]; done) | (simp [HL.out]; omega))
          try go_wp2_with fail
          refine wp_region_S (F := NoF) (w0 := w) (L0 := [entSto F gs ⟨1000, 3, [itm D (s : Int) (xs.take p) false]⟩, .blk g7 30 (ints .u8 D), .os 5 (.slice (some ⟨ga, oa, none⟩) s c) (ints .u8 xs)]) [] [7]
            (fun iK u E => match iK with
              | _ => False)
            ([]) (by kernel_rfl) (by kernel_rfl) hS ?_
          show wpS _ _ _ _ _ _ _ _ _ _ [0, 1, 2, 3, 4, 5, 6, 7, 8, 9, 10, 11, 12] _
          apply wpS_read (i := 0) rfl rfl ⟨_, hS⟩ rfl -- Op.move t12
          · intro w' hT'
            simp only [List.getElem_toArray, List.getElem_cons_zero, List.getElem_cons_succ]
            go_wp2_with fail
            first | exact ⟨rfl, rfl, rfl⟩ | rfl
          apply wpS_read (i := 1) rfl rfl ⟨_, hS⟩ rfl -- Op.load 30 t11
          · intro w' hT'
            simp only [List.getElem_toArray, List.getElem_cons_zero, List.getElem_cons_succ]
            go_wp2_with (first
              | ((refine hs_loadW hT' 1 rfl rfl 30 _ rfl rfl 32 infoHashS (by simp [HDL.out]) _ arrHashS rfl _ rfl ?_))
              | (refine slice_any rfl _ _ _ 41 rfl 5 undBytesS sizeU8S _ s c f t (t - f) rfl rfl rfl (by omega) (by omega) rfl _ rfl ?_)
              | fail)
            first | exact ⟨rfl, rfl, rfl⟩ | rfl
          apply wpS_read (i := 2) rfl rfl ⟨_, hS⟩ rfl -- Op.move t15
          · intro w' hT'
            simp only [List.getElem_toArray, List.getElem_cons_zero, List.getElem_cons_succ]
            go_wp2_with fail
            first | exact ⟨rfl, rfl, rfl⟩ | rfl
          apply wpS_read (i := 3) rfl rfl ⟨_, hS⟩ rfl -- Op.move t10
          · intro w' hT'
            simp only [List.getElem_toArray, List.getElem_cons_zero, List.getElem_cons_succ]
            go_wp2_with fail
            first | exact ⟨rfl, rfl, rfl⟩ | rfl
          apply wpS_read (i := 4) rfl rfl ⟨_, hS⟩ rfl -- Op.move t15
          · intro w' hT'
            simp only [List.getElem_toArray, List.getElem_cons_zero, List.getElem_cons_succ]
            go_wp2_with fail
            first | exact ⟨rfl, rfl, rfl⟩ | rfl
          apply wpS_read (i := 5) rfl rfl ⟨_, hS⟩ rfl -- Op.move t16
          · intro w' hT'
            simp only [List.getElem_toArray, List.getElem_cons_zero, List.getElem_cons_succ]
            go_wp2_with fail
            first | exact ⟨rfl, rfl, rfl⟩ | rfl
          apply wpS_read (i := 6) rfl rfl ⟨_, hS⟩ rfl -- Op.slice 41 t93 (some t94) (some t95) none
          · intro w' hT'
            simp only [List.getElem_toArray, List.getElem_cons_zero, List.getElem_cons_succ]
            go_wp2_with (first
              | ((refine hs_loadW hT' 1 rfl rfl 30 _ rfl rfl 32 infoHashS (by simp [HDL.out]) _ arrHashS rfl _ rfl ?_))
              | (refine slice_any rfl _ _ _ 41 rfl 5 undBytesS sizeU8S _ s c f t (t - f) rfl rfl rfl (by omega) (by omega) rfl _ rfl ?_)
              | fail)
            first | exact ⟨rfl, rfl, rfl⟩ | rfl
          refine wpS_tot (i := 7) rfl rfl (by kernel_rfl) ?_ -- Op.call { value (Operand.func 19), args := #[t90, t91, t92, t96], ar
          intro w7 hT
          replace hT : HS NoF w w7 [entSto F gs ⟨1000, 3, [itm D (s : Int) (xs.take p) false]⟩, .blk g7 30 (ints .u8 D), .os 5 (.slice (some ⟨ga, oa, none⟩) s c) (ints .u8 xs)] := hT
          simp only [List.getElem_toArray, List.getElem_cons_zero, List.getElem_cons_succ]
          go_wp2_with (first
            | (go_at_call 19; (refine (putH D (f : Int) ((xs.drop f).take (t - f)) (cutA (some ⟨ga, oa, none⟩) c f) (t - f) (c - f) ((p : Int), none) [itm D (s : Int) (xs.take p) false] hE hT (hgd _ _ (by rw [List.length_take, HL.out]; omega)) HDL.out (by omega) (by rw [List.length_take, List.length_drop, HL.out]; omega) (by omega) (by omega) (fun h => cutA_none (fun h => by cases h) h) ((rd_from ((hT.os 2 rfl).rd rfl) (fun hf => cutA_some (m := s) (by rw [HL.out] at hf; exact hf) hc)).take _) (fun a ha hne hF => by obtain ⟨b, hb1, hb2⟩ := cutA_block ha; injection hb1 with hb1; subst hb1; exact hT.mem.apart (i := 0) (j := 2) rfl rfl (by decide) a.block hF (by rw [← hb2]; rfl)) HPI2.out.1 HPI2.out.2).mono ?_); rintro e wq ⟨rfl, F1, hSn⟩; (replace hT : HS NoF w wq [entSto F1 gs ⟨1000, 3, [itm D (s : Int) (xs.take p) false]⟩, .blk g7 30 (ints .u8 D), .os 5 (.slice (some ⟨ga, oa, none⟩) s c) (ints .u8 xs)] := hSn); clear hSn)
            | fail)
          refine TotP.mk' ([entSto F1 gs ⟨1000, 3, [itm D (s : Int) (xs.take p) false]⟩, .blk g7 30 (ints .u8 D), .os 5 (.slice (some ⟨ga, oa, none⟩) s c) (ints .u8 xs)]) rfl ?_ ?_
          · exact hT
          have hSr := hT
          clear hT
          apply wpS_read (i := 8) rfl rfl ⟨_, hSr⟩ rfl -- Op.move t97
          · intro w' hT'
            simp only [List.getElem_toArray, List.getElem_cons_zero, List.getElem_cons_succ]
            go_wp2_with fail
            first | exact ⟨rfl, rfl, rfl⟩ | rfl
          apply wpS_read (i := 9) rfl rfl ⟨_, hSr⟩ rfl -- Op.extract t89 0
          · intro w' hT'
            simp only [List.getElem_toArray, List.getElem_cons_zero, List.getElem_cons_succ]
            go_wp2_with fail
            first | exact ⟨rfl, rfl, rfl⟩ | rfl
          apply wpS_read (i := 10) rfl rfl ⟨_, hSr⟩ rfl -- Op.extract t89 1
          · intro w' hT'
            simp only [List.getElem_toArray, List.getElem_cons_zero, List.getElem_cons_succ]
            go_wp2_with fail
            first | exact ⟨rfl, rfl, rfl⟩ | rfl
          apply wpS_read (i := 11) rfl rfl ⟨_, hSr⟩ rfl -- Op.assign t98
          · intro w' hT'
            simp only [List.getElem_toArray, List.getElem_cons_zero, List.getElem_cons_succ]
            go_wp2_with fail
            first | exact ⟨rfl, rfl, rfl⟩ | rfl
          apply wpS_read (i := 12) rfl rfl ⟨_, hSr⟩ rfl -- Op.assign t99
          · intro w' hT'
            simp only [List.getElem_toArray, List.getElem_cons_zero, List.getElem_cons_succ]
            go_wp2_with fail
            first | exact ⟨rfl, rfl, rfl⟩ | rfl
          refine wpS_end ?_
          intro wz hT
          try dsimp only
          rw [List.nil_append] at hT
          clear hS hSr
          have hS := hT
          clear hT
          simp only [erV]
          go_wp2_with (first
            | (refine hs_loadW hS 1 rfl rfl 30 _ rfl rfl 32 infoHashS (by simp [HDL.out]) _ arrHashS rfl _ rfl ?_)
            | fail)
          refine (getH D 0 0 ([], some 16) [itm D (s : Int) (xs.take p) false] hE hS (hgd _ _ (by rw [List.length_take, HL.out]; omega)) HDL.out (by omega) (by omega) gotN touchI).mono ?_
          rintro e w9 ⟨A5, m5, c5, rfl, hm5, hc5, hA5, F2, hS2⟩
          clear hS hm5 hc5 hA5
          have hS := hS2.erase 1
          clear hS2
          go_wp2_with (first
            | (refine hs_loadW hS 1 rfl rfl 30 _ rfl rfl 32 infoHashS (by simp [HDL.out]) _ arrHashS rfl _ rfl ?_)
            | fail)
          refine (is_erV_calls 117 (stoErrs hS hE) (some 16) (fun k hk => by injection hk with hk; omega)).mono ?_
          rintro e w10 ⟨rfl, hB⟩
          replace hS := hS.below hB
          clear hB
          go_wp2_with (first
            | (refine hs_loadW hS 1 rfl rfl 30 _ rfl rfl 32 infoHashS (by simp [HDL.out]) _ arrHashS rfl _ rfl ?_)
            | fail)
          go_roundg (gk - 1)
          case measure => have := hq.out; omega
          case rel => exact ⟨i + 1, p, F2, by omega, hqs, rfl, rfl, hid (by have := hq.out; omega), hS⟩
    · have hlt2 : ¬ (i : Int) < nc := by omega
      have hgp := hgd (xs.take p) false (by rw [List.length_take, HL.out]; omega)
      by_cases hp : p < s
      · have hp2 : (p : Int) < s := by omega
        have HCN := hid (commitN (id := D) (n := (s : Int)) (b := xs.take p) (by rw [List.length_take, HL.out]; omega))
        go_wp2_with (first
          | (refine hs_loadW hS 1 rfl rfl 30 _ rfl rfl 32 infoHashS (by simp [HDL.out]) _ arrHashS rfl _ rfl ?_)
          | fail)
        refine (commitH D (some 16) _ hE hS hgp HDL.out (by rw [posI]; simp) (fun x hx b hb => by rw [List.mem_singleton.mp hx] at hb; exact H8.out b (List.mem_of_mem_take hb)) HCN.out.1 HCN.out.2).mono ?_
        rintro e w11 ⟨rfl, F3, hS3⟩
        clear hS
        have hS := hS3
        clear hS3
        simp only [erV]
        go_wp2_with (first
          | (refine hs_loadW hS 1 rfl rfl 30 _ rfl rfl 32 infoHashS (by simp [HDL.out]) _ arrHashS rfl _ rfl ?_)
          | fail)
        refine (is_erV_calls 117 (stoErrs hS hE) (some 16) (fun k hk => by injection hk with hk; omega)).mono ?_
        rintro e w12 ⟨rfl, hB⟩
        replace hS := hS.below hB
        clear hB
        go_wp2_with (first
          | (refine hs_loadW hS 1 rfl rfl 30 _ rfl rfl 32 infoHashS (by simp [HDL.out]) _ arrHashS rfl _ rfl ?_)
          | fail)
        have HPI := hid (putI (id := D) (n := (s : Int)) (off := (p : Int)) (b := xs.take p) (bs := xs.drop p) (by simp [HL.out]; omega) (by rw [List.length_drop, HL.out]; omega))
        have HPX : Hd (putB (xs.take p) p (xs.drop p) = xs) := hid (by unfold putB; rw [List.take_take, Nat.min_self, List.take_append_drop, List.drop_eq_nil_of_le (by rw [List.length_take, List.length_drop]; omega), List.append_nil])
        have HPI2 : Hd (putOf D (p : Int) (xs.drop p) [itm D (s : Int) (xs.take p) false] = ((s : Int), none) ∧ putL D (p : Int) (xs.drop p) [itm D (s : Int) (xs.take p) false] = [itm D (s : Int) xs false]) := hid (by have h1 := HPI.out; rw [Int.toNat_natCast, HPX.out, HL.out] at h1; exact h1)
        try go_wp2_with fail
        refine wp_region_S (F := NoF) (w0 := w) (L0 := [entSto F3 gs ⟨1000, 3, [itm D (s : Int) (xs.take p) false]⟩, .blk g7 30 (ints .u8 D), .os 5 (.slice (some ⟨ga, oa, none⟩) s c) (ints .u8 xs)]) [] [6]
          (fun iK u E => match iK with
            | _ => False)
          ([]) (by kernel_rfl) (by kernel_rfl) hS ?_
        show wpS _ _ _ _ _ _ _ _ _ _ [0, 1, 2, 3, 4, 5, 6, 7, 8, 9, 10, 11] _
        apply wpS_read (i := 0) rfl rfl ⟨_, hS⟩ rfl -- Op.move t12
        · intro w' hT'
          simp only [List.getElem_toArray, List.getElem_cons_zero, List.getElem_cons_succ]
          go_wp2_with fail
          first | exact ⟨rfl, rfl, rfl⟩ | rfl
        apply wpS_read (i := 1) rfl rfl ⟨_, hS⟩ rfl -- Op.load 30 t11
        · intro w' hT'
          simp only [List.getElem_toArray, List.getElem_cons_zero, List.getElem_cons_succ]
          go_wp2_with (first
            | ((refine hs_loadW hT' 1 rfl rfl 30 _ rfl rfl 32 infoHashS (by simp [HDL.out]) _ arrHashS rfl _ rfl ?_))
            | (refine slice_cut rfl _ _ 41 rfl 5 undBytesS sizeU8S .i64 (some ⟨ga, oa, none⟩) s c p rfl rfl hps ?_)
            | fail)
          first | exact ⟨rfl, rfl, rfl⟩ | rfl
        apply wpS_read (i := 2) rfl rfl ⟨_, hS⟩ rfl -- Op.move t13
        · intro w' hT'
          simp only [List.getElem_toArray, List.getElem_cons_zero, List.getElem_cons_succ]
          go_wp2_with fail
          first | exact ⟨rfl, rfl, rfl⟩ | rfl
        apply wpS_read (i := 3) rfl rfl ⟨_, hS⟩ rfl -- Op.move t10
        · intro w' hT'
          simp only [List.getElem_toArray, List.getElem_cons_zero, List.getElem_cons_succ]
          go_wp2_with fail
          first | exact ⟨rfl, rfl, rfl⟩ | rfl
        apply wpS_read (i := 4) rfl rfl ⟨_, hS⟩ rfl -- Op.move t13
        · intro w' hT'
          simp only [List.getElem_toArray, List.getElem_cons_zero, List.getElem_cons_succ]
          go_wp2_with fail
          first | exact ⟨rfl, rfl, rfl⟩ | rfl
        apply wpS_read (i := 5) rfl rfl ⟨_, hS⟩ rfl -- Op.slice 41 t132 (some t133) none none
        · intro w' hT'
          simp only [List.getElem_toArray, List.getElem_cons_zero, List.getElem_cons_succ]
          go_wp2_with (first
            | ((refine hs_loadW hT' 1 rfl rfl 30 _ rfl rfl 32 infoHashS (by simp [HDL.out]) _ arrHashS rfl _ rfl ?_))
            | (refine slice_cut rfl _ _ 41 rfl 5 undBytesS sizeU8S .i64 (some ⟨ga, oa, none⟩) s c p rfl rfl hps ?_)
            | fail)
          first | exact ⟨rfl, rfl, rfl⟩ | rfl
        refine wpS_tot (i := 6) rfl rfl (by kernel_rfl) ?_ -- Op.call { value (Operand.func 19), args := #[t129, t130, t131, t134]
        intro w6 hT
        replace hT : HS NoF w w6 [entSto F3 gs ⟨1000, 3, [itm D (s : Int) (xs.take p) false]⟩, .blk g7 30 (ints .u8 D), .os 5 (.slice (some ⟨ga, oa, none⟩) s c) (ints .u8 xs)] := hT
        simp only [List.getElem_toArray, List.getElem_cons_zero, List.getElem_cons_succ]
        go_wp2_with (first
          | (go_at_call 19; (refine (putH D (p : Int) (xs.drop p) (cutA (some ⟨ga, oa, none⟩) c p) (s - p) (c - p) ((s : Int), none) [itm D (s : Int) xs false] hE hT (hgd _ _ (by rw [List.length_take, HL.out]; omega)) HDL.out (by omega) (by rw [List.length_drop, HL.out]) (by omega) (by omega) (fun h => cutA_none (fun h => by cases h) h) (rd_from ((hT.os 2 rfl).rd rfl) (fun hf => cutA_some (m := s) (by rw [HL.out] at hf; exact hf) hc)) (fun a ha hne hF => by obtain ⟨b, hb1, hb2⟩ := cutA_block ha; injection hb1 with hb1; subst hb1; exact hT.mem.apart (i := 0) (j := 2) rfl rfl (by decide) a.block hF (by rw [← hb2]; rfl)) HPI2.out.1 HPI2.out.2).mono ?_); rintro e wq ⟨rfl, F1, hSn⟩; (replace hT : HS NoF w wq [entSto F1 gs ⟨1000, 3, [itm D (s : Int) xs false]⟩, .blk g7 30 (ints .u8 D), .os 5 (.slice (some ⟨ga, oa, none⟩) s c) (ints .u8 xs)] := hSn); clear hSn)
          | fail)
        refine TotP.mk' ([entSto F1 gs ⟨1000, 3, [itm D (s : Int) xs false]⟩, .blk g7 30 (ints .u8 D), .os 5 (.slice (some ⟨ga, oa, none⟩) s c) (ints .u8 xs)]) rfl ?_ ?_
        · exact hT
        have hSr := hT
        clear hT
        apply wpS_read (i := 7) rfl rfl ⟨_, hSr⟩ rfl -- Op.move t135
        · intro w' hT'
          simp only [List.getElem_toArray, List.getElem_cons_zero, List.getElem_cons_succ]
          go_wp2_with fail
          first | exact ⟨rfl, rfl, rfl⟩ | rfl
        apply wpS_read (i := 8) rfl rfl ⟨_, hSr⟩ rfl -- Op.extract t128 0
        · intro w' hT'
          simp only [List.getElem_toArray, List.getElem_cons_zero, List.getElem_cons_succ]
          go_wp2_with fail
          first | exact ⟨rfl, rfl, rfl⟩ | rfl
        apply wpS_read (i := 9) rfl rfl ⟨_, hSr⟩ rfl -- Op.extract t128 1
        · intro w' hT'
          simp only [List.getElem_toArray, List.getElem_cons_zero, List.getElem_cons_succ]
          go_wp2_with fail
          first | exact ⟨rfl, rfl, rfl⟩ | rfl
        apply wpS_read (i := 10) rfl rfl ⟨_, hSr⟩ rfl -- Op.assign t136
        · intro w' hT'
          simp only [List.getElem_toArray, List.getElem_cons_zero, List.getElem_cons_succ]
          go_wp2_with fail
          first | exact ⟨rfl, rfl, rfl⟩ | rfl
        apply wpS_read (i := 11) rfl rfl ⟨_, hSr⟩ rfl -- Op.assign t137
        · intro w' hT'
          simp only [List.getElem_toArray, List.getElem_cons_zero, List.getElem_cons_succ]
          go_wp2_with fail
          first | exact ⟨rfl, rfl, rfl⟩ | rfl
        refine wpS_end ?_
        intro wz hT
        try dsimp only
        rw [List.nil_append] at hT
        clear hS hSr
        have hS := hT
        clear hT
        simp only [erV]
        have HCI := hid (commitI (id := D) (n := (s : Int)) hD.out (by rw [HL.out]; exact Int.le_refl _))
        have HCD := hid (commitD (id := D) (n := (s : Int)) (b := xs))
        go_wp2_with (first
          | (refine hs_loadW hS 1 rfl rfl 30 _ rfl rfl 32 infoHashS (by simp [HDL.out]) _ arrHashS rfl _ rfl ?_)
          | fail)
        refine (commitH D none _ hE hS (hgd xs false (by rw [HL.out]; exact Nat.le_refl _)) HDL.out (by rw [posI]; simp) (fun x hx b hb => by rw [List.mem_singleton.mp hx] at hb; exact H8.out b (hb)) HCI.out.1 HCI.out.2).mono ?_
        rintro e w20 ⟨rfl, F20, hSn⟩
        clear hS
        have hS : HS NoF w w20 [entSto F20 gs ⟨1000, 3, [itm D (s : Int) xs true]⟩, .blk g7 30 (ints .u8 D), .os 5 (.slice (some ⟨ga, oa, none⟩) s c) (ints .u8 xs)] := hSn
        clear hSn
        simp only [erV]
        go_wp2_with (first
          | (refine hs_loadW hS 1 rfl rfl 30 _ rfl rfl 32 infoHashS (by simp [HDL.out]) _ arrHashS rfl _ rfl ?_)
          | fail)
        refine (commitH D none _ hE hS (hgd xs true (by rw [HL.out]; exact Nat.le_refl _)) HDL.out (by rw [posI]; simp) (fun x hx b hb => by rw [List.mem_singleton.mp hx] at hb; exact H8.out b (hb)) HCD.out.1 HCD.out.2).mono ?_
        rintro e w21 ⟨rfl, F21, hSn⟩
        clear hS
        have hS : HS NoF w w21 [entSto F21 gs ⟨1000, 3, [itm D (s : Int) xs true]⟩, .blk g7 30 (ints .u8 D), .os 5 (.slice (some ⟨ga, oa, none⟩) s c) (ints .u8 xs)] := hSn
        clear hSn
        simp only [erV]
        go_wp2_with (first
          | (refine hs_loadW hS 1 rfl rfl 30 _ rfl rfl 32 infoHashS (by simp [HDL.out]) _ arrHashS rfl _ rfl ?_)
          | (have _ := mk0; go_at_call 9; (refine (numberN_calls _ 201 _ (by omega) (by omega)).mono ?_); rintro e wz ⟨n2, hn2, rfl, rfl⟩; have mk1 : True := trivial)
          | (go_at_call 9; (refine (numberN_calls _ ((s : Int) + 1) _ (by omega) (by omega)).mono ?_); rintro e wz ⟨o, ho, rfl, rfl⟩; have mk0 : True := trivial)
          | fail)
        · obtain ⟨t, ht⟩ : ∃ t : Nat, (s : Int) - o = t := ⟨s - o, by omega⟩
          rw [ht]
          have hot : o + t ≤ s ∧ t ≤ 200 := by omega
          clear ht
          clear mk0 mk1
          clear HCI HCD
          have hg3 := hgd xs true (by rw [HL.out]; exact Nat.le_refl _)
          obtain ⟨ys, hys⟩ : ∃ ys, Hd ((xs.drop o).take t = ys) := ⟨_, hid rfl⟩
          have HYL : Hd (ys.length = t) := hid (by rw [← hys.out, List.length_take, List.length_drop, HL.out]; omega)
          have HGE : Hd (getOf D (o : Int) (t : Int) [itm D (s : Int) xs true] = (ys, none)) := hid (by rw [gotI (by rw [HL.out]; omega), Int.toNat_natCast, Int.toNat_natCast, hys.out])
          have HPD := hid (putD (id := D) (n := (s : Int)) (b := xs) (off := 0) (bs := xs))
          have HGR := hid (gotR (id := D) (m := (s : Int)) (b := xs) (off := (o : Int)) (n := (s : Int) - (o : Int) + 1) (by rw [HL.out]; omega))
          have HST := hid (statI (id := D) (n := (s : Int)) (b := xs) (d := true))
          rw [HL.out] at HST
          refine (getH D (o : Int) (t : Int) (ys, none) _ hE hS hg3 HDL.out (by omega) (by omega) HGE.out touchI).mono ?_
          rintro e w22 ⟨A5, m5, c5, rfl, hm5, hc5, hA5, F22, hSn⟩
          have hm5' : ys.length = m5 := hm5
          rw [HYL.out] at hm5'
          subst hm5'
          clear hS hm5
          have hS : HS NoF w w22 [entSto F22 gs ⟨1000, 3, [itm D (s : Int) xs true]⟩, .blk g7 30 (ints .u8 D), .os 5 (.slice (some ⟨ga, oa, none⟩) s c) (ints .u8 xs), .os 5 (.slice A5 t c5) (ints .u8 ys)] := hSn.perm (List.Perm.cons _ (List.perm_append_comm (l₁ := [Ent.os 5 (.slice A5 t c5) (ints .u8 ys)]) (l₂ := [Ent.blk g7 30 (ints .u8 D), Ent.os 5 (.slice (some ⟨ga, oa, none⟩) s c) (ints .u8 xs)])))
          clear hSn
          simp only [erV]
          go_wp2_with (first
            | (refine hs_loadW hS 1 rfl rfl 30 _ rfl rfl 32 infoHashS (by simp [HDL.out]) _ arrHashS rfl _ rfl ?_)
            | fail)
          refine (putH D 0 xs (some ⟨ga, oa, none⟩) s c (0, some 16) _ hE hS hg3 HDL.out (by omega) HL.out (by omega) hc (fun h => by cases h) ((hS.os 2 rfl).rd rfl) (fun a ha hne hF => hS.mem.apart (i := 0) (j := 2) rfl rfl (by decide) a.block hF (by injection ha with ha; subst ha; rfl)) HPD.out.1 HPD.out.2).mono ?_
          rintro e w23 ⟨rfl, F23, hSn⟩
          clear hS
          have hS : HS NoF w w23 [entSto F23 gs ⟨1000, 3, [itm D (s : Int) xs true]⟩, .blk g7 30 (ints .u8 D), .os 5 (.slice (some ⟨ga, oa, none⟩) s c) (ints .u8 xs), .os 5 (.slice A5 t c5) (ints .u8 ys)] := hSn
          clear hSn
          simp only [erV]
          go_wp2_with (first
            | (refine hs_loadW hS 1 rfl rfl 30 _ rfl rfl 32 infoHashS (by simp [HDL.out]) _ arrHashS rfl _ rfl ?_)
            | fail)
          refine (getH D (o : Int) ((s : Int) - (o : Int) + 1) ([], some 1) _ hE hS hg3 HDL.out (by omega) (by omega) HGR.out touchI).mono ?_
          rintro e w24 ⟨A6, m6, c6, rfl, hm6, hc6, hA6, F24, hSn⟩
          clear hS hm6 hc6 hA6
          have hS : HS NoF w w24 [entSto F24 gs ⟨1000, 3, [itm D (s : Int) xs true]⟩, .blk g7 30 (ints .u8 D), .os 5 (.slice (some ⟨ga, oa, none⟩) s c) (ints .u8 xs), .os 5 (.slice A5 t c5) (ints .u8 ys)] := hSn.erase 1
          clear hSn
          simp only [erV]
          go_wp2_with (first
            | (refine hs_loadW hS 1 rfl rfl 30 _ rfl rfl 32 infoHashS (by simp [HDL.out]) _ arrHashS rfl _ rfl ?_)
            | fail)
          refine (statH D ((s : Int), true, none) _ hE hS hg3 HDL.out HST.out touchI).mono ?_
          rintro e w25 ⟨rfl, F25, hSn⟩
          clear hS
          have hS : HS NoF w w25 [entSto F25 gs ⟨1000, 3, [itm D (s : Int) xs true]⟩, .blk g7 30 (ints .u8 D), .os 5 (.slice (some ⟨ga, oa, none⟩) s c) (ints .u8 xs), .os 5 (.slice A5 t c5) (ints .u8 ys)] := hSn
          clear hSn
          simp only [erV]
          have hry := (rd_from (f := o) (A' := cutA (some ⟨ga, oa, none⟩) c o) ((hS.os 2 rfl).rd rfl) (fun hf => cutA_some (m := s) (by rw [HL.out] at hf; exact hf) hc)).take t
          rw [hys.out] at hry
          go_wp2_with (first
            | (refine hs_loadW hS 1 rfl rfl 30 _ rfl rfl 32 infoHashS (by simp [HDL.out]) _ arrHashS rfl _ rfl ?_)
            | (refine slice_any rfl _ _ _ 41 rfl 5 undBytesS sizeU8S _ s c o (o + t) t rfl rfl rfl (by omega) (by omega) (by omega) _ rfl ?_)
            | (go_at_call 22; refine (same_calls ys ys A5 (cutA (some ⟨ga, oa, none⟩) c o) c5 (c - o) t t _ HYL.out.symm HYL.out.symm ((hS.os 3 rfl).rd rfl) hry (by rw [HYL.out]; omega) (by rw [HYL.out]; omega)).mono ?_; rintro e w26 ⟨rfl, n26, hw26⟩; (replace hS := hS.drewN n26); (rw [← hw26] at hS); clear hw26 hry; (have hdy : decide (ys = ys) = true := by simp); rw [hdy])
            | fail)
          refine (is_erV_calls 117 (stoErrs hS hE) (some 16) (fun k hk => by injection hk with hk; omega)).mono ?_
          rintro e w27 ⟨rfl, hB⟩
          replace hS := hS.below hB
          clear hB
          go_wp2_with (first
            | (refine hs_loadW hS 1 rfl rfl 30 _ rfl rfl 32 infoHashS (by simp [HDL.out]) _ arrHashS rfl _ rfl ?_)
            | fail)
          refine (is_erV_calls 102 (stoErrs hS hE) (some 1) (fun k hk => by injection hk with hk; omega)).mono ?_
          rintro e w28 ⟨rfl, hB⟩
          replace hS := hS.below hB
          clear hB
          go_wp2_with (first
            | (refine hs_loadW hS 1 rfl rfl 30 _ rfl rfl 32 infoHashS (by simp [HDL.out]) _ arrHashS rfl _ rfl ?_)
            | fail)
          go_ret
          exact ⟨rfl, hS.bel⟩
        · obtain ⟨t, ht⟩ : ∃ t : Nat, n2 = t := ⟨n2, rfl⟩
          subst ht
          have hot : o + n2 ≤ s ∧ n2 ≤ 200 := by omega
          clear mk0 mk1
          clear HCI HCD
          have hg3 := hgd xs true (by rw [HL.out]; exact Nat.le_refl _)
          obtain ⟨ys, hys⟩ : ∃ ys, Hd ((xs.drop o).take n2 = ys) := ⟨_, hid rfl⟩
          have HYL : Hd (ys.length = n2) := hid (by rw [← hys.out, List.length_take, List.length_drop, HL.out]; omega)
          have HGE : Hd (getOf D (o : Int) (n2 : Int) [itm D (s : Int) xs true] = (ys, none)) := hid (by rw [gotI (by rw [HL.out]; omega), Int.toNat_natCast, Int.toNat_natCast, hys.out])
          have HPD := hid (putD (id := D) (n := (s : Int)) (b := xs) (off := 0) (bs := xs))
          have HGR := hid (gotR (id := D) (m := (s : Int)) (b := xs) (off := (o : Int)) (n := (s : Int) - (o : Int) + 1) (by rw [HL.out]; omega))
          have HST := hid (statI (id := D) (n := (s : Int)) (b := xs) (d := true))
          rw [HL.out] at HST
          refine (getH D (o : Int) (n2 : Int) (ys, none) _ hE hS hg3 HDL.out (by omega) (by omega) HGE.out touchI).mono ?_
          rintro e w22 ⟨A5, m5, c5, rfl, hm5, hc5, hA5, F22, hSn⟩
          have hm5' : ys.length = m5 := hm5
          rw [HYL.out] at hm5'
          subst hm5'
          clear hS hm5
          have hS : HS NoF w w22 [entSto F22 gs ⟨1000, 3, [itm D (s : Int) xs true]⟩, .blk g7 30 (ints .u8 D), .os 5 (.slice (some ⟨ga, oa, none⟩) s c) (ints .u8 xs), .os 5 (.slice A5 n2 c5) (ints .u8 ys)] := hSn.perm (List.Perm.cons _ (List.perm_append_comm (l₁ := [Ent.os 5 (.slice A5 n2 c5) (ints .u8 ys)]) (l₂ := [Ent.blk g7 30 (ints .u8 D), Ent.os 5 (.slice (some ⟨ga, oa, none⟩) s c) (ints .u8 xs)])))
          clear hSn
          simp only [erV]
          go_wp2_with (first
            | (refine hs_loadW hS 1 rfl rfl 30 _ rfl rfl 32 infoHashS (by simp [HDL.out]) _ arrHashS rfl _ rfl ?_)
            | fail)
          refine (putH D 0 xs (some ⟨ga, oa, none⟩) s c (0, some 16) _ hE hS hg3 HDL.out (by omega) HL.out (by omega) hc (fun h => by cases h) ((hS.os 2 rfl).rd rfl) (fun a ha hne hF => hS.mem.apart (i := 0) (j := 2) rfl rfl (by decide) a.block hF (by injection ha with ha; subst ha; rfl)) HPD.out.1 HPD.out.2).mono ?_
          rintro e w23 ⟨rfl, F23, hSn⟩
          clear hS
          have hS : HS NoF w w23 [entSto F23 gs ⟨1000, 3, [itm D (s : Int) xs true]⟩, .blk g7 30 (ints .u8 D), .os 5 (.slice (some ⟨ga, oa, none⟩) s c) (ints .u8 xs), .os 5 (.slice A5 n2 c5) (ints .u8 ys)] := hSn
          clear hSn
          simp only [erV]
          go_wp2_with (first
            | (refine hs_loadW hS 1 rfl rfl 30 _ rfl rfl 32 infoHashS (by simp [HDL.out]) _ arrHashS rfl _ rfl ?_)
            | fail)
          refine (getH D (o : Int) ((s : Int) - (o : Int) + 1) ([], some 1) _ hE hS hg3 HDL.out (by omega) (by omega) HGR.out touchI).mono ?_
          rintro e w24 ⟨A6, m6, c6, rfl, hm6, hc6, hA6, F24, hSn⟩
          clear hS hm6 hc6 hA6
          have hS : HS NoF w w24 [entSto F24 gs ⟨1000, 3, [itm D (s : Int) xs true]⟩, .blk g7 30 (ints .u8 D), .os 5 (.slice (some ⟨ga, oa, none⟩) s c) (ints .u8 xs), .os 5 (.slice A5 n2 c5) (ints .u8 ys)] := hSn.erase 1
          clear hSn
          simp only [erV]
          go_wp2_with (first
            | (refine hs_loadW hS 1 rfl rfl 30 _ rfl rfl 32 infoHashS (by simp [HDL.out]) _ arrHashS rfl _ rfl ?_)
            | fail)
          refine (statH D ((s : Int), true, none) _ hE hS hg3 HDL.out HST.out touchI).mono ?_
          rintro e w25 ⟨rfl, F25, hSn⟩
          clear hS
          have hS : HS NoF w w25 [entSto F25 gs ⟨1000, 3, [itm D (s : Int) xs true]⟩, .blk g7 30 (ints .u8 D), .os 5 (.slice (some ⟨ga, oa, none⟩) s c) (ints .u8 xs), .os 5 (.slice A5 n2 c5) (ints .u8 ys)] := hSn
          clear hSn
          simp only [erV]
          have hry := (rd_from (f := o) (A' := cutA (some ⟨ga, oa, none⟩) c o) ((hS.os 2 rfl).rd rfl) (fun hf => cutA_some (m := s) (by rw [HL.out] at hf; exact hf) hc)).take n2
          rw [hys.out] at hry
          go_wp2_with (first
            | (refine hs_loadW hS 1 rfl rfl 30 _ rfl rfl 32 infoHashS (by simp [HDL.out]) _ arrHashS rfl _ rfl ?_)
            | (refine slice_any rfl _ _ _ 41 rfl 5 undBytesS sizeU8S _ s c o (o + n2) n2 rfl rfl rfl (by omega) (by omega) (by omega) _ rfl ?_)
            | (go_at_call 22; refine (same_calls ys ys A5 (cutA (some ⟨ga, oa, none⟩) c o) c5 (c - o) n2 n2 _ HYL.out.symm HYL.out.symm ((hS.os 3 rfl).rd rfl) hry (by rw [HYL.out]; omega) (by rw [HYL.out]; omega)).mono ?_; rintro e w26 ⟨rfl, n26, hw26⟩; (replace hS := hS.drewN n26); (rw [← hw26] at hS); clear hw26 hry; (have hdy : decide (ys = ys) = true := by simp); rw [hdy])
            | fail)
          refine (is_erV_calls 117 (stoErrs hS hE) (some 16) (fun k hk => by injection hk with hk; omega)).mono ?_
          rintro e w27 ⟨rfl, hB⟩
          replace hS := hS.below hB
          clear hB
          go_wp2_with (first
            | (refine hs_loadW hS 1 rfl rfl 30 _ rfl rfl 32 infoHashS (by simp [HDL.out]) _ arrHashS rfl _ rfl ?_)
            | fail)
          refine (is_erV_calls 102 (stoErrs hS hE) (some 1) (fun k hk => by injection hk with hk; omega)).mono ?_
          rintro e w28 ⟨rfl, hB⟩
          replace hS := hS.below hB
          clear hB
          go_wp2_with (first
            | (refine hs_loadW hS 1 rfl rfl 30 _ rfl rfl 32 infoHashS (by simp [HDL.out]) _ arrHashS rfl _ rfl ?_)
            | fail)
          go_ret
          exact ⟨rfl, hS.bel⟩
      · have hp2 : ¬ (p : Int) < s := by omega
        have hpx : xs.take p = xs := List.take_of_length_le (by rw [HL.out]; omega)
        rw [hpx] at hS
        have HCI := hid (commitI (id := D) (n := (s : Int)) hD.out (by rw [HL.out]; exact Int.le_refl _))
        have HCD := hid (commitD (id := D) (n := (s : Int)) (b := xs))
        go_wp2_with (first
          | (refine hs_loadW hS 1 rfl rfl 30 _ rfl rfl 32 infoHashS (by simp [HDL.out]) _ arrHashS rfl _ rfl ?_)
          | fail)
        refine (commitH D none _ hE hS (hgd xs false (by rw [HL.out]; exact Nat.le_refl _)) HDL.out (by rw [posI]; simp) (fun x hx b hb => by rw [List.mem_singleton.mp hx] at hb; exact H8.out b (hb)) HCI.out.1 HCI.out.2).mono ?_
        rintro e w20 ⟨rfl, F20, hSn⟩
        clear hS
        have hS : HS NoF w w20 [entSto F20 gs ⟨1000, 3, [itm D (s : Int) xs true]⟩, .blk g7 30 (ints .u8 D), .os 5 (.slice (some ⟨ga, oa, none⟩) s c) (ints .u8 xs)] := hSn
        clear hSn
        simp only [erV]
        go_wp2_with (first
          | (refine hs_loadW hS 1 rfl rfl 30 _ rfl rfl 32 infoHashS (by simp [HDL.out]) _ arrHashS rfl _ rfl ?_)
          | fail)
        refine (commitH D none _ hE hS (hgd xs true (by rw [HL.out]; exact Nat.le_refl _)) HDL.out (by rw [posI]; simp) (fun x hx b hb => by rw [List.mem_singleton.mp hx] at hb; exact H8.out b (hb)) HCD.out.1 HCD.out.2).mono ?_
        rintro e w21 ⟨rfl, F21, hSn⟩
        clear hS
        have hS : HS NoF w w21 [entSto F21 gs ⟨1000, 3, [itm D (s : Int) xs true]⟩, .blk g7 30 (ints .u8 D), .os 5 (.slice (some ⟨ga, oa, none⟩) s c) (ints .u8 xs)] := hSn
        clear hSn
        simp only [erV]
        go_wp2_with (first
          | (refine hs_loadW hS 1 rfl rfl 30 _ rfl rfl 32 infoHashS (by simp [HDL.out]) _ arrHashS rfl _ rfl ?_)
          | (have _ := mk0; go_at_call 9; (refine (numberN_calls _ 201 _ (by omega) (by omega)).mono ?_); rintro e wz ⟨n2, hn2, rfl, rfl⟩; have mk1 : True := trivial)
          | (go_at_call 9; (refine (numberN_calls _ ((s : Int) + 1) _ (by omega) (by omega)).mono ?_); rintro e wz ⟨o, ho, rfl, rfl⟩; have mk0 : True := trivial)
          | fail)
        · obtain ⟨t, ht⟩ : ∃ t : Nat, (s : Int) - o = t := ⟨s - o, by omega⟩
          rw [ht]
          have hot : o + t ≤ s ∧ t ≤ 200 := by omega
          clear ht
          clear mk0 mk1
          clear HCI HCD
          have hg3 := hgd xs true (by rw [HL.out]; exact Nat.le_refl _)
          obtain ⟨ys, hys⟩ : ∃ ys, Hd ((xs.drop o).take t = ys) := ⟨_, hid rfl⟩
          have HYL : Hd (ys.length = t) := hid (by rw [← hys.out, List.length_take, List.length_drop, HL.out]; omega)
          have HGE : Hd (getOf D (o : Int) (t : Int) [itm D (s : Int) xs true] = (ys, none)) := hid (by rw [gotI (by rw [HL.out]; omega), Int.toNat_natCast, Int.toNat_natCast, hys.out])
          have HPD := hid (putD (id := D) (n := (s : Int)) (b := xs) (off := 0) (bs := xs))
          have HGR := hid (gotR (id := D) (m := (s : Int)) (b := xs) (off := (o : Int)) (n := (s : Int) - (o : Int) + 1) (by rw [HL.out]; omega))
          have HST := hid (statI (id := D) (n := (s : Int)) (b := xs) (d := true))
          rw [HL.out] at HST
          refine (getH D (o : Int) (t : Int) (ys, none) _ hE hS hg3 HDL.out (by omega) (by omega) HGE.out touchI).mono ?_
          rintro e w22 ⟨A5, m5, c5, rfl, hm5, hc5, hA5, F22, hSn⟩
          have hm5' : ys.length = m5 := hm5
          rw [HYL.out] at hm5'
          subst hm5'
          clear hS hm5
          have hS : HS NoF w w22 [entSto F22 gs ⟨1000, 3, [itm D (s : Int) xs true]⟩, .blk g7 30 (ints .u8 D), .os 5 (.slice (some ⟨ga, oa, none⟩) s c) (ints .u8 xs), .os 5 (.slice A5 t c5) (ints .u8 ys)] := hSn.perm (List.Perm.cons _ (List.perm_append_comm (l₁ := [Ent.os 5 (.slice A5 t c5) (ints .u8 ys)]) (l₂ := [Ent.blk g7 30 (ints .u8 D), Ent.os 5 (.slice (some ⟨ga, oa, none⟩) s c) (ints .u8 xs)])))
          clear hSn
          simp only [erV]
          go_wp2_with (first
            | (refine hs_loadW hS 1 rfl rfl 30 _ rfl rfl 32 infoHashS (by simp [HDL.out]) _ arrHashS rfl _ rfl ?_)
            | fail)
          refine (putH D 0 xs (some ⟨ga, oa, none⟩) s c (0, some 16) _ hE hS hg3 HDL.out (by omega) HL.out (by omega) hc (fun h => by cases h) ((hS.os 2 rfl).rd rfl) (fun a ha hne hF => hS.mem.apart (i := 0) (j := 2) rfl rfl (by decide) a.block hF (by injection ha with ha; subst ha; rfl)) HPD.out.1 HPD.out.2).mono ?_
          rintro e w23 ⟨rfl, F23, hSn⟩
          clear hS
          have hS : HS NoF w w23 [entSto F23 gs ⟨1000, 3, [itm D (s : Int) xs true]⟩, .blk g7 30 (ints .u8 D), .os 5 (.slice (some ⟨ga, oa, none⟩) s c) (ints .u8 xs), .os 5 (.slice A5 t c5) (ints .u8 ys)] := hSn
          clear hSn
          simp only [erV]
          go_wp2_with (first
            | (refine hs_loadW hS 1 rfl rfl 30 _ rfl rfl 32 infoHashS (by simp [HDL.out]) _ arrHashS rfl _ rfl ?_)
            | fail)
          refine (getH D (o : Int) ((s : Int) - (o : Int) + 1) ([], some 1) _ hE hS hg3 HDL.out (by omega) (by omega) HGR.out touchI).mono ?_
          rintro e w24 ⟨A6, m6, c6, rfl, hm6, hc6, hA6, F24, hSn⟩
          clear hS hm6 hc6 hA6
          have hS : HS NoF w w24 [entSto F24 gs ⟨1000, 3, [itm D (s : Int) xs true]⟩, .blk g7 30 (ints .u8 D), .os 5 (.slice (some ⟨ga, oa, none⟩) s c) (ints .u8 xs), .os 5 (.slice A5 t c5) (ints .u8 ys)] := hSn.erase 1
          clear hSn
          simp only [erV]
          go_wp2_with (first
            | (refine hs_loadW hS 1 rfl rfl 30 _ rfl rfl 32 infoHashS (by simp [HDL.out]) _ arrHashS rfl _ rfl ?_)
            | fail)
          refine (statH D ((s : Int), true, none) _ hE hS hg3 HDL.out HST.out touchI).mono ?_
          rintro e w25 ⟨rfl, F25, hSn⟩
          clear hS
          have hS : HS NoF w w25 [entSto F25 gs ⟨1000, 3, [itm D (s : Int) xs true]⟩, .blk g7 30 (ints .u8 D), .os 5 (.slice (some ⟨ga, oa, none⟩) s c) (ints .u8 xs), .os 5 (.slice A5 t c5) (ints .u8 ys)] := hSn
          clear hSn
          simp only [erV]
          have hry := (rd_from (f := o) (A' := cutA (some ⟨ga, oa, none⟩) c o) ((hS.os 2 rfl).rd rfl) (fun hf => cutA_some (m := s) (by rw [HL.out] at hf; exact hf) hc)).take t
          rw [hys.out] at hry
          go_wp2_with (first
            | (refine hs_loadW hS 1 rfl rfl 30 _ rfl rfl 32 infoHashS (by simp [HDL.out]) _ arrHashS rfl _ rfl ?_)
            | (refine slice_any rfl _ _ _ 41 rfl 5 undBytesS sizeU8S _ s c o (o + t) t rfl rfl rfl (by omega) (by omega) (by omega) _ rfl ?_)
            | (go_at_call 22; refine (same_calls ys ys A5 (cutA (some ⟨ga, oa, none⟩) c o) c5 (c - o) t t _ HYL.out.symm HYL.out.symm ((hS.os 3 rfl).rd rfl) hry (by rw [HYL.out]; omega) (by rw [HYL.out]; omega)).mono ?_; rintro e w26 ⟨rfl, n26, hw26⟩; (replace hS := hS.drewN n26); (rw [← hw26] at hS); clear hw26 hry; (have hdy : decide (ys = ys) = true := by simp); rw [hdy])
            | fail)
          refine (is_erV_calls 117 (stoErrs hS hE) (some 16) (fun k hk => by injection hk with hk; omega)).mono ?_
          rintro e w27 ⟨rfl, hB⟩
          replace hS := hS.below hB
          clear hB
          go_wp2_with (first
            | (refine hs_loadW hS 1 rfl rfl 30 _ rfl rfl 32 infoHashS (by simp [HDL.out]) _ arrHashS rfl _ rfl ?_)
            | fail)
          refine (is_erV_calls 102 (stoErrs hS hE) (some 1) (fun k hk => by injection hk with hk; omega)).mono ?_
          rintro e w28 ⟨rfl, hB⟩
          replace hS := hS.below hB
          clear hB
          go_wp2_with (first
            | (refine hs_loadW hS 1 rfl rfl 30 _ rfl rfl 32 infoHashS (by simp [HDL.out]) _ arrHashS rfl _ rfl ?_)
            | fail)
          go_ret
          exact ⟨rfl, hS.bel⟩
        · obtain ⟨t, ht⟩ : ∃ t : Nat, n2 = t := ⟨n2, rfl⟩
          subst ht
          have hot : o + n2 ≤ s ∧ n2 ≤ 200 := by omega
          clear mk0 mk1
          clear HCI HCD
          have hg3 := hgd xs true (by rw [HL.out]; exact Nat.le_refl _)
          obtain ⟨ys, hys⟩ : ∃ ys, Hd ((xs.drop o).take n2 = ys) := ⟨_, hid rfl⟩
          have HYL : Hd (ys.length = n2) := hid (by rw [← hys.out, List.length_take, List.length_drop, HL.out]; omega)
          have HGE : Hd (getOf D (o : Int) (n2 : Int) [itm D (s : Int) xs true] = (ys, none)) := hid (by rw [gotI (by rw [HL.out]; omega), Int.toNat_natCast, Int.toNat_natCast, hys.out])
          have HPD := hid (putD (id := D) (n := (s : Int)) (b := xs) (off := 0) (bs := xs))
          have HGR := hid (gotR (id := D) (m := (s : Int)) (b := xs) (off := (o : Int)) (n := (s : Int) - (o : Int) + 1) (by rw [HL.out]; omega))
          have HST := hid (statI (id := D) (n := (s : Int)) (b := xs) (d := true))
          rw [HL.out] at HST
          refine (getH D (o : Int) (n2 : Int) (ys, none) _ hE hS hg3 HDL.out (by omega) (by omega) HGE.out touchI).mono ?_
          rintro e w22 ⟨A5, m5, c5, rfl, hm5, hc5, hA5, F22, hSn⟩
          have hm5' : ys.length = m5 := hm5
          rw [HYL.out] at hm5'
          subst hm5'
          clear hS hm5
          have hS : HS NoF w w22 [entSto F22 gs ⟨1000, 3, [itm D (s : Int) xs true]⟩, .blk g7 30 (ints .u8 D), .os 5 (.slice (some ⟨ga, oa, none⟩) s c) (ints .u8 xs), .os 5 (.slice A5 n2 c5) (ints .u8 ys)] := hSn.perm (List.Perm.cons _ (List.perm_append_comm (l₁ := [Ent.os 5 (.slice A5 n2 c5) (ints .u8 ys)]) (l₂ := [Ent.blk g7 30 (ints .u8 D), Ent.os 5 (.slice (some ⟨ga, oa, none⟩) s c) (ints .u8 xs)])))
          clear hSn
          simp only [erV]
          go_wp2_with (first
            | (refine hs_loadW hS 1 rfl rfl 30 _ rfl rfl 32 infoHashS (by simp [HDL.out]) _ arrHashS rfl _ rfl ?_)
            | fail)
          refine (putH D 0 xs (some ⟨ga, oa, none⟩) s c (0, some 16) _ hE hS hg3 HDL.out (by omega) HL.out (by omega) hc (fun h => by cases h) ((hS.os 2 rfl).rd rfl) (fun a ha hne hF => hS.mem.apart (i := 0) (j := 2) rfl rfl (by decide) a.block hF (by injection ha with ha; subst ha; rfl)) HPD.out.1 HPD.out.2).mono ?_
          rintro e w23 ⟨rfl, F23, hSn⟩
          clear hS
          have hS : HS NoF w w23 [entSto F23 gs ⟨1000, 3, [itm D (s : Int) xs true]⟩, .blk g7 30 (ints .u8 D), .os 5 (.slice (some ⟨ga, oa, none⟩) s c) (ints .u8 xs), .os 5 (.slice A5 n2 c5) (ints .u8 ys)] := hSn
          clear hSn
          simp only [erV]
          go_wp2_with (first
            | (refine hs_loadW hS 1 rfl rfl 30 _ rfl rfl 32 infoHashS (by simp [HDL.out]) _ arrHashS rfl _ rfl ?_)
            | fail)
          refine (getH D (o : Int) ((s : Int) - (o : Int) + 1) ([], some 1) _ hE hS hg3 HDL.out (by omega) (by omega) HGR.out touchI).mono ?_
          rintro e w24 ⟨A6, m6, c6, rfl, hm6, hc6, hA6, F24, hSn⟩
          clear hS hm6 hc6 hA6
          have hS : HS NoF w w24 [entSto F24 gs ⟨1000, 3, [itm D (s : Int) xs true]⟩, .blk g7 30 (ints .u8 D), .os 5 (.slice (some ⟨ga, oa, none⟩) s c) (ints .u8 xs), .os 5 (.slice A5 n2 c5) (ints .u8 ys)] := hSn.erase 1
          clear hSn
          simp only [erV]
          go_wp2_with (first
            | (refine hs_loadW hS 1 rfl rfl 30 _ rfl rfl 32 infoHashS (by simp [HDL.out]) _ arrHashS rfl _ rfl ?_)
            | fail)
          refine (statH D ((s : Int), true, none) _ hE hS hg3 HDL.out HST.out touchI).mono ?_
          rintro e w25 ⟨rfl, F25, hSn⟩
          clear hS
          have hS : HS NoF w w25 [entSto F25 gs ⟨1000, 3, [itm D (s : Int) xs true]⟩, .blk g7 30 (ints .u8 D), .os 5 (.slice (some ⟨ga, oa, none⟩) s c) (ints .u8 xs), .os 5 (.slice A5 n2 c5) (ints .u8 ys)] := hSn
          clear hSn
          simp only [erV]
          have hry := (rd_from (f := o) (A' := cutA (some ⟨ga, oa, none⟩) c o) ((hS.os 2 rfl).rd rfl) (fun hf => cutA_some (m := s) (by rw [HL.out] at hf; exact hf) hc)).take n2
          rw [hys.out] at hry
          go_wp2_with (first
            | (refine hs_loadW hS 1 rfl rfl 30 _ rfl rfl 32 infoHashS (by simp [HDL.out]) _ arrHashS rfl _ rfl ?_)
            | (refine slice_any rfl _ _ _ 41 rfl 5 undBytesS sizeU8S _ s c o (o + n2) n2 rfl rfl rfl (by omega) (by omega) (by omega) _ rfl ?_)
            | (go_at_call 22; refine (same_calls ys ys A5 (cutA (some ⟨ga, oa, none⟩) c o) c5 (c - o) n2 n2 _ HYL.out.symm HYL.out.symm ((hS.os 3 rfl).rd rfl) hry (by rw [HYL.out]; omega) (by rw [HYL.out]; omega)).mono ?_; rintro e w26 ⟨rfl, n26, hw26⟩; (replace hS := hS.drewN n26); (rw [← hw26] at hS); clear hw26 hry; (have hdy : decide (ys = ys) = true := by simp); rw [hdy])
            | fail)
          refine (is_erV_calls 117 (stoErrs hS hE) (some 16) (fun k hk => by injection hk with hk; omega)).mono ?_
          rintro e w27 ⟨rfl, hB⟩
          replace hS := hS.below hB
          clear hB
          go_wp2_with (first
            | (refine hs_loadW hS 1 rfl rfl 30 _ rfl rfl 32 infoHashS (by simp [HDL.out]) _ arrHashS rfl _ rfl ?_)
            | fail)
          refine (is_erV_calls 102 (stoErrs hS hE) (some 1) (fun k hk => by injection hk with hk; omega)).mono ?_
          rintro e w28 ⟨rfl, hB⟩
          replace hS := hS.below hB
          clear hB
          go_wp2_with (first
            | (refine hs_loadW hS 1 rfl rfl 30 _ rfl rfl 32 infoHashS (by simp [HDL.out]) _ arrHashS rfl _ rfl ?_)
            | fail)
          go_ret
          exact ⟨rfl, hS.bel⟩
end Go.Proofs.YtinpilfnnmkpoaaDoor
