import Derived.Test.YtenjpmegnjdobaaDoorMgSB0
import Derived.Test.YtenjpmegnjdobaaDoorMgSB1
import Derived.Test.YtenjpmegnjdobaaDoorMgSB2
import Derived.Test.YtenjpmegnjdobaaDoorMgSB3
import Derived.Test.YtenjpmegnjdobaaDoorMgSB4
import Derived.Test.YtenjpmegnjdobaaDoorMgSB5
set_option linter.unusedSimpArgs false
set_option linter.unusedVariables false
/- The law StreamBack. -/
namespace Go.Proofs.YtenjpmegnjdobaaDoor
open Go.RowKit Go.Cour
theorem zeroKeyS : ((Tryd.prog.info? 23).bind (·.zero)).map (·.cells) = some (ints .u8 (List.replicate 32 0)).toArray := by kernel_rfl
theorem undBytesS : Tryd.prog.underlying 24 = some (.slice 5) := by kernel_rfl
theorem infoU8S : (Tryd.prog.info? 5).map (fun i => (i.size, i.bytes)) = some (1, 1) := by kernel_rfl
theorem zeroU8S : (((Tryd.prog.info? 5).bind (·.zero)).map (·.cells.size)) = some 1 := by kernel_rfl
theorem nil_neqK (w : World) : (binOp .neq 35 .nilIface .nilIface).run Tryd.prog w = .ok (.bool false) w := by
  obtain ⟨ms, hms⟩ := undErr
  have h : ∀ d : Nat, (Op.equalIn (d + 1) 35 .nilIface .nilIface).run Tryd.prog w = .ok true w := fun d => by simp [Op.equalIn, run_underlying hms]
  simp only [binOp]
  simp [Op.equal, Op.maxDepth, h 9999]
/-- One of the texts. -/
theorem ownL_at {w1 : World} {B : Nat} {e : TypeId} {v : Value} {xss : List (List Int)} {X : List Int} (h : OwnL w1 B e 5 .u8 v xss) (i : Nat) (hi : xss[i]? = some X) : ∃ g Ai ci c, v = .slice (some ⟨g, 0, none⟩) xss.length c ∧ X.length ≤ ci ∧
    ∀ w, (∀ k, B ≤ k → k < w1.heap.size → w.heap[k]? = w1.heap[k]?) → w.cell? ⟨g, i, none⟩ = some (.slice Ai X.length ci) ∧ Rd w Ai .u8 X := by
  obtain ⟨cs, hv, hl, hr⟩ := h
  have hil := (List.getElem?_eq_some_iff.1 hi).1
  obtain ⟨A, c, rfl, hc, hA, hcell⟩ := hv.parts
  obtain ⟨g, rfl, _⟩ := hcell i (by omega)
  have e1 : xss.getD i [] = X := by rw [List.getD_eq_getElem?_getD, hi]; rfl
  have e2 : cs[i]? = some (cs.getD i undef) := by rw [List.getD_eq_getElem?_getD, List.getElem?_eq_getElem (by omega)]; rfl
  have ho := hr i hil
  rw [e1] at ho
  obtain ⟨Ai, ci, hu, hci, _, _⟩ := ho.slice
  refine ⟨g, Ai, ci, c, by rw [hl], hci, fun w hw => ?_⟩
  obtain ⟨A2, c2, h2, _, _, hcell2⟩ := (OwnV.snap hv hw).parts
  injection h2 with h3
  subst h3
  obtain ⟨g', h4, h5⟩ := hcell2 i (by omega)
  injection h4 with h4; injection h4 with h4
  subst h4
  obtain ⟨A3, c3, h6, _, _, h7⟩ := (Own.snap ho hw).slice
  rw [hu] at h6
  injection h6 with h8
  subst h8
  exact ⟨by rw [h5, e2, hu], h7⟩
theorem allTo_at (key xs : List Int) (q n : Int) (j i : Nat) (hi : i < j) : (allTo key xs q n j)[i]? = some (ssealText key i ((i : Int) == n - 1) (pieceOf xs q i)) := by
  unfold allTo
  rw [List.getElem?_map, List.getElem?_range hi]
  rfl
theorem openOf_tag {key nonce ad b : List Int} (h : 16 ≤ b.length) : openOf key nonce ad b = .inr 8 ∨ ∃ ys, openOf key nonce ad b = .inl ys := by
  unfold openOf
  rw [if_neg (by omega)]
  split
  · exact .inr ⟨_, rfl⟩
  · exact .inl rfl
/-- The error of what was opened. -/
def erR (P : Nat → Addr) : List Int ⊕ Nat → Value
  | .inl _ => .nilIface
  | .inr k => errV (P k)
theorem Opened.er {w' : World} {base : Nat} {P : Nat → Addr} {r : List Int ⊕ Nat} {v er : Value} (h : Opened w' base P r v er) : er = erR P r := by cases r <;> exact h.1
theorem count_mul (L : Nat) (C : Int) (N : Nat) (hC : 1 ≤ C) (h : countI L C = (N : Int)) : ((N : Int) - 1) * C ≤ L ∧ (L : Int) ≤ (N : Int) * C := by
  obtain ⟨d, h1, h2, h3, h4, h5⟩ := count_facts L C hC
  rw [h] at h5
  have e1 : (d + 1) * C = d * C + C := by rw [Int.add_mul, Int.one_mul]
  rw [e1] at h4
  split at h5
  · have h6 : (N : Int) = d + 1 := by omega
    rw [h6, e1, show d + 1 - 1 = d by omega]; omega
  · by_cases hd : d = 0
    · subst hd
      have h6 : (N : Int) = 1 := by omega
      rw [h6]; omega
    · have h6 : (N : Int) = d := by omega
      rw [h6, Int.sub_mul, Int.one_mul]; omega
set_option maxHeartbeats 10000000 in
set_option maxRecDepth 100000 in
theorem streamBack_calls (nk chunk ii : Int) (xs : List Int) (A : Option Addr) (n c : Nat) {w : World} {P : Nat → Addr} (hE : Errs w P)
    (hn : n = xs.length) (hA : A = none → c = 0) (hc : n ≤ c) (hr : Rd w A .u8 xs) (rx : bytesOk xs) :
    Calls Tryd.prog 4 #[.int .i64 nk, .slice A n c, .int .i64 chunk, .int .i64 ii] w fun e w' => e = .returned (.bool true) ∧ Below w.heap.size w w' := by
  have HN := hid hn
  have HR := hid hr
  have hS := HS.start NoF w
  have hneq := nil_neqK
  clear hn hr
  by_cases hl : 200 < n
  · have hl2 : (200 : Int) < n := by omega
    go_enter Tryd.func4, Tryd.ntmps4
    go_wp2_with (first
      | (go_at_call 5; refine (first16_calls _).mono ?_; rintro e w2 ⟨rfl, hB⟩; replace hS := hS.below hB; clear hB)
      | fail)
    go_ret
    exact ⟨rfl, hS.bel⟩
  · have hl2 : ¬ (200 : Int) < n := by omega
    have hl3 : n ≤ 200 := by omega
    go_enter Tryd.func4, Tryd.ntmps4
    go_wp2_with (first
      | (go_at_call 5; refine (first16_calls _).mono ?_; rintro e w2 ⟨rfl, hB⟩; replace hS := hS.below hB; clear hB)
      | (go_at_call 6; (refine (numberN_calls _ 60 _ (by omega) (by omega)).mono ?_); rintro e wz ⟨k1, hk1, rfl, rfl⟩)
      | (go_at_call 20; refine (keyB_calls _ _).mono ?_; rintro e w3 ⟨key, hkl, rk, rfl, hB⟩; replace hS := hS.below hB; have HK := hid hkl; clear hB hkl)
      | (refine alloc_blk rfl 23 rfl _ rfl (ints .u8 (List.replicate 32 0)) zeroKeyS ?_; intro g10 w1 hga hba hBa hsa; replace hS := hS.pushBlk hBa hba hga; clear hga hba hBa hsa)
      | (refine hs_storeW hS 0 rfl rfl 23 _ _ rfl rfl (ints .u8 key) rfl (ints_one' _ _) _ info23 (by simp [HK.out]) (by simp) _ rfl ?_; clear hS; intro wk hS)
      | (refine hs_loadW hS 0 rfl rfl 23 _ rfl rfl 32 info23 (by simp [HK.out]) _ arr23 rfl _ rfl ?_)
      | fail)
    replace hS : HS NoF w _ [.blk g10 23 (ints .u8 key)] := hS
    obtain ⟨qn, hqn⟩ : ∃ qn : Nat, k1 + 1 = qn := ⟨_, rfl⟩
    have hqi : (k1 : Int) + 1 = (qn : Int) := by omega
    have hqb : 1 ≤ qn ∧ qn ≤ 60 := by omega
    rw [hqi]
    clear hqi hqn
    have hq1 : (1 : Int) ≤ (qn : Int) := by omega
    have hqt : Hd ((qn : Int).toNat = qn) := hid (Int.toNat_natCast _)
    obtain ⟨N, hN⟩ : ∃ N : Nat, Hd (countI (n : Int) (qn : Int) = (N : Int)) := ⟨(countI (n : Int) (qn : Int)).toNat, hid (by have := (countI_bounds n (qn : Int)).1; omega)⟩
    have hNb : 1 ≤ N ∧ N ≤ 200 := by have := countI_bounds n (qn : Int); have := hN.out; omega
    have hN2 : Hd (countI (xs.length : Int) (qn : Int) = (N : Int)) := hid (by rw [← HN.out]; exact hN.out)
    obtain ⟨TS, hTS⟩ : ∃ TS, Hd (allTexts key xs (qn : Int) = TS) := ⟨_, hid rfl⟩
    have hTO : Hd (TS = allTo key xs (qn : Int) (N : Int) N) := hid (by rw [← hTS.out, allTexts, hN2.out]; rfl)
    have hTL : Hd (TS.length = N) := hid (by rw [hTO.out, allTo_length])
    have HRO : Hd (∀ {w'}, Below w.heap.size w w' → Rd w' A .u8 xs) := hid (fun hB => HR.out.below hB)
    refine (all_calls key xs (qn : Int) A n c _ HK.out rk HN.out hA hc (HRO.out hS.bel) (by rw [← HN.out]; omega) (by omega)).mono ?_
    rintro e w4 ⟨vx, rfl, hox, hB⟩
    replace hS := hS.pushSnap hB
    rw [hTS.out] at hox
    obtain ⟨B4, hB4⟩ : ∃ B, Hd (wk.heap.size = B) := ⟨_, hid rfl⟩
    rw [hB4.out] at hS hox
    have HOX := hid hox
    obtain ⟨Ax, cx, rfl, hcx, _⟩ := ownL_prd hox
    rw [hTL.out] at HOX hcx ⊢
    clear hox hB
    obtain ⟨M1, hM1⟩ : ∃ M1 : Int, Hd (((N : Int) - 1) * (qn : Int) = M1) := ⟨_, hid rfl⟩
    obtain ⟨M2, hM2⟩ : ∃ M2 : Int, Hd ((N : Int) * (qn : Int) = M2) := ⟨_, hid rfl⟩
    have hcm := count_mul n (qn : Int) N hq1 hN.out
    rw [hM1.out, hM2.out] at hcm
    have hM1b : 0 ≤ M1 := by rw [← hM1.out]; exact Int.mul_nonneg (by omega) (by omega)
    have hM2b : M2 ≤ 12000 := by rw [← hM2.out]; exact Int.le_trans (Int.mul_le_mul_of_nonneg_right (show (N : Int) ≤ 200 by omega) (by omega)) (by omega)
    have hm1 : wrap64 (((N : Int) - 1) * (qn : Int)) = M1 := by rw [hM1.out]; exact IntWalk.wrap64_in _ (by omega)
    have hm2 : wrap64 ((N : Int) * (qn : Int)) = M2 := by rw [hM2.out]; exact IntWalk.wrap64_in _ (by omega)
    have hcm1 := hcm.1
    have hcm2 := hcm.2
    clear hcm
    go_wp2_with (first
      | (go_at_call 9; refine (count_calls _ _ _ (by omega) (by omega)).mono ?_; rintro e w5 ⟨rfl, rfl⟩; rw [hN.out])
      | fail)
    have HO0 : HS NoF w w5 [.os 5 (.slice none 0 0) (ints .u8 (xs.take (0 * qn))), .snap B4 w5, .blk g10 23 (ints .u8 key)] := hS.push (Below.refl _ _) _ (by rw [Nat.zero_mul, List.take_zero]; exact OwnS.nil _ _) (fun k hk => by cases hk)
    clear hS hm1 hm2
    go_loopg [13, 14] (N + 1) (fun kq v13 v14 wr => ∃ (i no co : Nat) (Ao : Option Addr), i ≤ N ∧ v14 = .int .i64 i ∧ v13 = .slice Ao no co ∧ no ≤ co ∧ Hd ((xs.take (i * qn)).length = no) ∧ Hd (kq + i = N + 1) ∧ HS NoF w wr [.os 5 (.slice Ao no co) (ints .u8 (xs.take (i * qn))), .snap B4 w5, .blk g10 23 (ints .u8 key)])
    case atStart => exact ⟨0, 0, 0, none, Nat.zero_le _, rfl, rfl, Nat.le_refl _, hid (by rw [Nat.zero_mul]; rfl), hid (by omega), HO0⟩
    case round =>
      clear HO0
      obtain ⟨i, no, co, Ao, hi, rfl, rfl, hoc, hno, hq, hS⟩ := hrel
      obtain ⟨ys, hys⟩ : ∃ ys, Hd (xs.take (i * qn) = ys) := ⟨_, hid rfl⟩
      rw [hys.out] at hno hS
      have hnob : no ≤ 200 := by rw [← hno.out, ← hys.out, List.length_take, ← HN.out]; omega
      by_cases hlt : i < N
      · have hlt2 : (i : Int) < N := by omega
        obtain ⟨PC, hPC⟩ : ∃ PC, Hd (pieceOf xs (qn : Int) i = PC) := ⟨_, hid rfl⟩
        obtain ⟨pn, hpn⟩ : ∃ pn, Hd (PC.length = pn) := ⟨_, hid rfl⟩
        have hpnb : pn ≤ 200 := by rw [← hpn.out, ← hPC.out]; have := pieceOf_le xs (qn : Int) i; rw [← HN.out] at this; omega
        have hap : Hd (ys ++ PC = xs.take ((i + 1) * qn)) := hid (by have := take_piece xs (qn : Int) i hq1 (by rw [hN2.out]; omega); rw [hqt.out, hys.out, hPC.out] at this; exact this)
        obtain ⟨L1, hL1⟩ : ∃ L1, ((i : Int) == (N : Int) - 1) = L1 := ⟨_, rfl⟩
        have HL1 := hid hL1
        have hL2 : ((i : Int) != (N : Int) - 1) = !L1 := by rw [bne, hL1]
        obtain ⟨X, hX⟩ : ∃ X, Hd (ssealText key i L1 PC = X) := ⟨_, hid rfl⟩
        have hXl : Hd (X.length = pn + 16) := hid (by rw [← hX.out]; unfold ssealText; rw [sealText_length, hpn.out])
        have rPC : Hd (bytesOk PC) := hid (by rw [← hPC.out]; exact bytesOk_piece rx)
        have rX : Hd (bytesOk X) := hid (by rw [← hX.out]; exact sealText_ok _ _ _ _ rPC.out)
        have hTi : Hd (TS[i]? = some X) := hid (by rw [hTO.out, allTo_at _ _ _ _ _ _ hlt, HL1.out, hPC.out, hX.out])
        obtain ⟨ga, Ai, ci, ca, hv, hXc, HAT0⟩ := ownL_at HOX.out i hTi.out
        rw [hXl.out] at hXc HAT0
        injection hv with hv1 hv2 hv3
        subst hv1
        clear hv2 hv3
        have HAT := hid HAT0
        clear HAT0
        have hO1 : Hd (openOf key (nonceOf i L1) [] X = .inl PC) := hid (by rw [← hX.out]; exact open_seal _ _ _ _ rPC.out)
        obtain ⟨O2, hO2⟩ : ∃ O2, Hd (openOf key (nonceOf i (!L1)) [] X = O2) := ⟨_, hid rfl⟩
        obtain ⟨O3, hO3⟩ : ∃ O3, Hd (openOf key (nonceOf ((i : Int) + 1) L1) [] X = O3) := ⟨_, hid rfl⟩
        have hT2 : Hd (O2 = .inr 8 ∨ ∃ ys, O2 = .inl ys) := hid (by rw [← hO2.out]; exact openOf_tag (by rw [hXl.out]; omega))
        have hT3 : Hd (O3 = .inr 8 ∨ ∃ ys, O3 = .inl ys) := hid (by rw [← hO3.out]; exact openOf_tag (by rw [hXl.out]; omega))
        try go_wp2_with fail
        refine wp_region_S (F := NoF) (w0 := w) (L0 := [.os 5 (.slice Ao no co) (ints .u8 ys), .snap B4 w5, .blk g10 23 (ints .u8 key)]) [11] []
          (fun iK u E => match iK with
            | 11 => ∃ (A6 : Option Addr) (c6 : Nat), u = .tuple #[.slice A6 pn c6, .nilIface] ∧ E = [.os 5 (.slice A6 pn c6) (ints .u8 PC)] ∧ pn ≤ c6
            | _ => False)
          ([]) (by kernel_rfl) (by kernel_rfl) hS ?_
        show wpS _ _ _ _ _ _ _ _ _ _ [0, 1, 2, 3, 4, 5, 6, 7, 8, 9, 10, 11, 12, 13, 14, 15, 16] _
        apply wpS_read (i := 0) rfl rfl ⟨_, hS⟩ rfl -- Op.load 23 t10
        · intro w' hT'
          simp only [List.getElem_toArray, List.getElem_cons_zero, List.getElem_cons_succ]
          have cX := (HAT.out w' (hT'.snap 1 rfl)).1
          go_wp2_with (first
            | (refine hs_loadW hT' 2 rfl rfl 23 _ rfl rfl 32 info23 (by simp [HK.out]) _ arr23 rfl _ rfl ?_)
            | fail)
          first | exact ⟨rfl, rfl, rfl⟩ | rfl
        apply wpS_read (i := 1) rfl rfl ⟨_, hS⟩ rfl -- Op.move t14
        · intro w' hT'
          simp only [List.getElem_toArray, List.getElem_cons_zero, List.getElem_cons_succ]
          go_wp2_with fail
          first | exact ⟨rfl, rfl, rfl⟩ | rfl
        apply wpS_read (i := 2) rfl rfl ⟨_, hS⟩ rfl -- Op.convert 3 25 t77
        · intro w' hT'
          simp only [List.getElem_toArray, List.getElem_cons_zero, List.getElem_cons_succ]
          go_wp2_with (first
            | (refine hs_loadW hT' 2 rfl rfl 23 _ rfl rfl 32 info23 (by simp [HK.out]) _ arr23 rfl _ rfl ?_)
            | fail)
          first | exact ⟨rfl, rfl, rfl⟩ | rfl
        apply wpS_read (i := 3) rfl rfl ⟨_, hS⟩ rfl -- Op.move t14
        · intro w' hT'
          simp only [List.getElem_toArray, List.getElem_cons_zero, List.getElem_cons_succ]
          go_wp2_with fail
          first | exact ⟨rfl, rfl, rfl⟩ | rfl
        apply wpS_read (i := 4) rfl rfl ⟨_, hS⟩ rfl -- Op.move t12
        · intro w' hT'
          simp only [List.getElem_toArray, List.getElem_cons_zero, List.getElem_cons_succ]
          go_wp2_with fail
          first | exact ⟨rfl, rfl, rfl⟩ | rfl
        apply wpS_read (i := 5) rfl rfl ⟨_, hS⟩ rfl -- Op.binOp BinOp.sub 3 t80 (const (1:i64)) 3
        · intro w' hT'
          simp only [List.getElem_toArray, List.getElem_cons_zero, List.getElem_cons_succ]
          go_wp2_with (first
            | (refine hs_loadW hT' 2 rfl rfl 23 _ rfl rfl 32 info23 (by simp [HK.out]) _ arr23 rfl _ rfl ?_)
            | fail)
          first | exact ⟨rfl, rfl, rfl⟩ | rfl
        apply wpS_read (i := 6) rfl rfl ⟨_, hS⟩ rfl -- Op.binOp BinOp.eql 3 t79 t81 3
        · intro w' hT'
          simp only [List.getElem_toArray, List.getElem_cons_zero, List.getElem_cons_succ]
          go_wp2_with (first
            | (refine hs_loadW hT' 2 rfl rfl 23 _ rfl rfl 32 info23 (by simp [HK.out]) _ arr23 rfl _ rfl ?_)
            | fail)
          first | exact ⟨rfl, rfl, rfl⟩ | rfl
        apply wpS_read (i := 7) rfl rfl ⟨_, hS⟩ rfl -- Op.move t11
        · intro w' hT'
          simp only [List.getElem_toArray, List.getElem_cons_zero, List.getElem_cons_succ]
          go_wp2_with fail
          first | exact ⟨rfl, rfl, rfl⟩ | rfl
        apply wpS_read (i := 8) rfl rfl ⟨_, hS⟩ rfl -- Op.move t14
        · intro w' hT'
          simp only [List.getElem_toArray, List.getElem_cons_zero, List.getElem_cons_succ]
          go_wp2_with fail
          first | exact ⟨rfl, rfl, rfl⟩ | rfl
        apply wpS_read (i := 9) rfl rfl ⟨_, hS⟩ rfl -- Op.indexAddr 28 t83 t84
        · intro w' hT'
          simp only [List.getElem_toArray, List.getElem_cons_zero, List.getElem_cons_succ]
          go_wp2_with fail
          first | exact ⟨rfl, rfl, rfl⟩ | rfl
        apply wpS_read (i := 10) rfl rfl ⟨_, hS⟩ rfl -- Op.load 24 t85
        · intro w' hT'
          simp only [List.getElem_toArray, List.getElem_cons_zero, List.getElem_cons_succ]
          have cX := (HAT.out w' (hT'.snap 1 rfl)).1
          go_wp2_with (first
            | (refine hs_loadW hT' 2 rfl rfl 23 _ rfl rfl 32 info23 (by simp [HK.out]) _ arr23 rfl _ rfl ?_)
            | fail)
          first | exact ⟨rfl, rfl, rfl⟩ | rfl
        refine wpS_soft (i := 11) rfl rfl rfl (Nat.le_of_ble_eq_true rfl) ?_ ?_ -- Op.call { value (Operand.func 17), args := #[t76, t78, t82, t86], ar
        · intro w' hT
          simp only [List.getElem_toArray, List.getElem_cons_zero, List.getElem_cons_succ]
          go_wp2_with (first
            | (go_at_call 17; refine (sopen_calls key i L1 X Ai (pn + 16) ci (hE.two.below hT.bel) HK.out rk (by omega) hXl.out.symm hXc ((HAT.out w' (hT.snap 1 rfl)).2) rX.out (by rw [hXl.out]; omega)).mono ?_; rintro e wq ⟨v, er, rfl, hop, hBq⟩; rw [hO1.out] at hop; (obtain ⟨rfl, ho⟩ := hop); (obtain ⟨A6, c6, rfl, hc6, hA6⟩ := ho.partsL hpn.out))
            | fail)
          exact SoftP.mk' (.tuple #[.slice A6 pn c6, .nilIface]) ([.os 5 (.slice A6 pn c6) (ints .u8 PC)]) rfl (⟨A6, c6, rfl, rfl, hc6⟩) (hT.pushOwn hBq ho) (hBq) (fun e he k hk => by rw [List.mem_singleton.1 he] at hk; exact ho.base_le k hk)
        intro u11 E11 hK11
        obtain ⟨A6, c6, rfl, rfl, hc6⟩ := hK11
        simp only [Act.put, List.setIfInBounds_toArray, List.set_cons_zero, List.set_cons_succ]
        apply wpS_read (i := 12) rfl rfl ⟨_, hS⟩ rfl -- Op.move t87
        · intro w' hT'
          simp only [List.getElem_toArray, List.getElem_cons_zero, List.getElem_cons_succ]
          go_wp2_with fail
          first | exact ⟨rfl, rfl, rfl⟩ | rfl
        apply wpS_read (i := 13) rfl rfl ⟨_, hS⟩ rfl -- Op.extract t75 0
        · intro w' hT'
          simp only [List.getElem_toArray, List.getElem_cons_zero, List.getElem_cons_succ]
          go_wp2_with fail
          first | exact ⟨rfl, rfl, rfl⟩ | rfl
        apply wpS_read (i := 14) rfl rfl ⟨_, hS⟩ rfl -- Op.extract t75 1
        · intro w' hT'
          simp only [List.getElem_toArray, List.getElem_cons_zero, List.getElem_cons_succ]
          go_wp2_with fail
          first | exact ⟨rfl, rfl, rfl⟩ | rfl
        apply wpS_read (i := 15) rfl rfl ⟨_, hS⟩ rfl -- Op.assign t88
        · intro w' hT'
          simp only [List.getElem_toArray, List.getElem_cons_zero, List.getElem_cons_succ]
          go_wp2_with fail
          first | exact ⟨rfl, rfl, rfl⟩ | rfl
        apply wpS_read (i := 16) rfl rfl ⟨_, hS⟩ rfl -- Op.assign t89
        · intro w' hT'
          simp only [List.getElem_toArray, List.getElem_cons_zero, List.getElem_cons_succ]
          go_wp2_with fail
          first | exact ⟨rfl, rfl, rfl⟩ | rfl
        refine wpS_end ?_
        intro wz16 hT
        try dsimp only
        clear hS
        have hS : HS NoF w wz16 [.os 5 (.slice A6 pn c6) (ints .u8 PC), .os 5 (.slice Ao no co) (ints .u8 ys), .snap B4 w5, .blk g10 23 (ints .u8 key)] := hT
        clear hT
        have cX := (HAT.out _ (hS.snap 2 rfl)).1
        go_wp2_with (first
          | (refine hs_append hS 1 rfl rfl _ _ 24 rfl 1 undBytesS infoU8S zeroU8S rfl A6 pn c6 rfl (ints .u8 PC) (by rw [ints_length]; exact hpn.out) (news_of_rd ((hS.os 0 rfl).rd rfl)) (ints_one' _ _) (by rw [ints_length, hno.out]; omega) (by rw [ints_length, hno.out]; omega) _ rfl ?_; clear hS cX; intro A1 n1 c1 w6 hn1 hc1 hA1 hS; have HN1 := hid hn1; clear hn1; rw [← ints_append, hap.out] at hS HN1)
          | fail)
        rw [ints_length] at HN1
        obtain ⟨zs, hzs⟩ : ∃ zs, Hd (xs.take ((i + 1) * qn) = zs) := ⟨_, hid rfl⟩
        rw [hzs.out] at hS HN1
        replace hS : HS NoF w w6 [.os 5 (.slice A1 n1 c1) (ints .u8 zs), .snap B4 w5, .blk g10 23 (ints .u8 key)] := hS.erase 0
        try go_wp2_with fail
        refine wp_region_S (F := NoF) (w0 := w) (L0 := [.os 5 (.slice A1 n1 c1) (ints .u8 zs), .snap B4 w5, .blk g10 23 (ints .u8 key)]) [11] []
          (fun iK u E => match iK with
            | 11 => ∃ v : Value, u = .tuple #[v, erR P O2] ∧ E = []
            | _ => False)
          ([]) (by kernel_rfl) (by kernel_rfl) hS ?_
        show wpS _ _ _ _ _ _ _ _ _ _ [0, 1, 2, 3, 4, 5, 6, 7, 8, 9, 10, 11, 12, 13, 14, 15, 16] _
        apply wpS_read (i := 0) rfl rfl ⟨_, hS⟩ rfl -- Op.load 23 t10
        · intro w' hT'
          simp only [List.getElem_toArray, List.getElem_cons_zero, List.getElem_cons_succ]
          have cX := (HAT.out w' (hT'.snap 1 rfl)).1
          go_wp2_with (first
            | (refine hs_loadW hT' 2 rfl rfl 23 _ rfl rfl 32 info23 (by simp [HK.out]) _ arr23 rfl _ rfl ?_)
            | fail)
          first | exact ⟨rfl, rfl, rfl⟩ | rfl
        apply wpS_read (i := 1) rfl rfl ⟨_, hS⟩ rfl -- Op.move t14
        · intro w' hT'
          simp only [List.getElem_toArray, List.getElem_cons_zero, List.getElem_cons_succ]
          go_wp2_with fail
          first | exact ⟨rfl, rfl, rfl⟩ | rfl
        apply wpS_read (i := 2) rfl rfl ⟨_, hS⟩ rfl -- Op.convert 3 25 t108
        · intro w' hT'
          simp only [List.getElem_toArray, List.getElem_cons_zero, List.getElem_cons_succ]
          go_wp2_with (first
            | (refine hs_loadW hT' 2 rfl rfl 23 _ rfl rfl 32 info23 (by simp [HK.out]) _ arr23 rfl _ rfl ?_)
            | fail)
          first | exact ⟨rfl, rfl, rfl⟩ | rfl
        apply wpS_read (i := 3) rfl rfl ⟨_, hS⟩ rfl -- Op.move t14
        · intro w' hT'
          simp only [List.getElem_toArray, List.getElem_cons_zero, List.getElem_cons_succ]
          go_wp2_with fail
          first | exact ⟨rfl, rfl, rfl⟩ | rfl
        apply wpS_read (i := 4) rfl rfl ⟨_, hS⟩ rfl -- Op.move t12
        · intro w' hT'
          simp only [List.getElem_toArray, List.getElem_cons_zero, List.getElem_cons_succ]
          go_wp2_with fail
          first | exact ⟨rfl, rfl, rfl⟩ | rfl
        apply wpS_read (i := 5) rfl rfl ⟨_, hS⟩ rfl -- Op.binOp BinOp.sub 3 t111 (const (1:i64)) 3
        · intro w' hT'
          simp only [List.getElem_toArray, List.getElem_cons_zero, List.getElem_cons_succ]
          go_wp2_with (first
            | (refine hs_loadW hT' 2 rfl rfl 23 _ rfl rfl 32 info23 (by simp [HK.out]) _ arr23 rfl _ rfl ?_)
            | fail)
          first | exact ⟨rfl, rfl, rfl⟩ | rfl
        apply wpS_read (i := 6) rfl rfl ⟨_, hS⟩ rfl -- Op.binOp BinOp.neq 3 t110 t112 3
        · intro w' hT'
          simp only [List.getElem_toArray, List.getElem_cons_zero, List.getElem_cons_succ]
          go_wp2_with (first
            | (refine hs_loadW hT' 2 rfl rfl 23 _ rfl rfl 32 info23 (by simp [HK.out]) _ arr23 rfl _ rfl ?_)
            | fail)
          first | exact ⟨rfl, rfl, rfl⟩ | rfl
        apply wpS_read (i := 7) rfl rfl ⟨_, hS⟩ rfl -- Op.move t11
        · intro w' hT'
          simp only [List.getElem_toArray, List.getElem_cons_zero, List.getElem_cons_succ]
          go_wp2_with fail
          first | exact ⟨rfl, rfl, rfl⟩ | rfl
        apply wpS_read (i := 8) rfl rfl ⟨_, hS⟩ rfl -- Op.move t14
        · intro w' hT'
          simp only [List.getElem_toArray, List.getElem_cons_zero, List.getElem_cons_succ]
          go_wp2_with fail
          first | exact ⟨rfl, rfl, rfl⟩ | rfl
        apply wpS_read (i := 9) rfl rfl ⟨_, hS⟩ rfl -- Op.indexAddr 28 t114 t115
        · intro w' hT'
          simp only [List.getElem_toArray, List.getElem_cons_zero, List.getElem_cons_succ]
          go_wp2_with fail
          first | exact ⟨rfl, rfl, rfl⟩ | rfl
        apply wpS_read (i := 10) rfl rfl ⟨_, hS⟩ rfl -- Op.load 24 t116
        · intro w' hT'
          simp only [List.getElem_toArray, List.getElem_cons_zero, List.getElem_cons_succ]
          have cX := (HAT.out w' (hT'.snap 1 rfl)).1
          go_wp2_with (first
            | (refine hs_loadW hT' 2 rfl rfl 23 _ rfl rfl 32 info23 (by simp [HK.out]) _ arr23 rfl _ rfl ?_)
            | fail)
          first | exact ⟨rfl, rfl, rfl⟩ | rfl
        refine wpS_soft (i := 11) rfl rfl rfl (Nat.le_of_ble_eq_true rfl) ?_ ?_ -- Op.call { value (Operand.func 17), args := #[t107, t109, t113, t117]
        · intro w' hT
          simp only [List.getElem_toArray, List.getElem_cons_zero, List.getElem_cons_succ]
          go_wp2_with (first
            | (go_at_call 17; refine (sopen_calls key i (!L1) X Ai (pn + 16) ci (hE.two.below hT.bel) HK.out rk (by omega) hXl.out.symm hXc ((HAT.out w' (hT.snap 1 rfl)).2) rX.out (by rw [hXl.out]; omega)).mono ?_; rintro e wq ⟨v, er, rfl, hop, hBq⟩; rw [hO2.out] at hop; (have her := hop.er); subst her)
            | fail)
          exact SoftP.mk' (.tuple #[v, erR P O2]) ([]) rfl (⟨v, rfl, rfl⟩) (hT.below hBq) (hBq) (fun _ h => by cases h)
        intro u11 E11 hK11
        obtain ⟨v20, rfl, rfl⟩ := hK11
        simp only [Act.put, List.setIfInBounds_toArray, List.set_cons_zero, List.set_cons_succ]
        apply wpS_read (i := 12) rfl rfl ⟨_, hS⟩ rfl -- Op.move t118
        · intro w' hT'
          simp only [List.getElem_toArray, List.getElem_cons_zero, List.getElem_cons_succ]
          go_wp2_with fail
          first | exact ⟨rfl, rfl, rfl⟩ | rfl
        apply wpS_read (i := 13) rfl rfl ⟨_, hS⟩ rfl -- Op.extract t106 0
        · intro w' hT'
          simp only [List.getElem_toArray, List.getElem_cons_zero, List.getElem_cons_succ]
          go_wp2_with fail
          first | exact ⟨rfl, rfl, rfl⟩ | rfl
        apply wpS_read (i := 14) rfl rfl ⟨_, hS⟩ rfl -- Op.extract t106 1
        · intro w' hT'
          simp only [List.getElem_toArray, List.getElem_cons_zero, List.getElem_cons_succ]
          go_wp2_with fail
          first | exact ⟨rfl, rfl, rfl⟩ | rfl
        apply wpS_read (i := 15) rfl rfl ⟨_, hS⟩ rfl -- Op.assign t119
        · intro w' hT'
          simp only [List.getElem_toArray, List.getElem_cons_zero, List.getElem_cons_succ]
          go_wp2_with fail
          first | exact ⟨rfl, rfl, rfl⟩ | rfl
        apply wpS_read (i := 16) rfl rfl ⟨_, hS⟩ rfl -- Op.assign t120
        · intro w' hT'
          simp only [List.getElem_toArray, List.getElem_cons_zero, List.getElem_cons_succ]
          go_wp2_with fail
          first | exact ⟨rfl, rfl, rfl⟩ | rfl
        refine wpS_end ?_
        intro wz20 hT
        try dsimp only
        clear hS
        have hS : HS NoF w wz20 [.os 5 (.slice A1 n1 c1) (ints .u8 zs), .snap B4 w5, .blk g10 23 (ints .u8 key)] := hT
        clear hT
        try go_wp2_with fail
        refine wp_region_S (F := NoF) (w0 := w) (L0 := [.os 5 (.slice A1 n1 c1) (ints .u8 zs), .snap B4 w5, .blk g10 23 (ints .u8 key)]) [12] []
          (fun iK u E => match iK with
            | 12 => ∃ v : Value, u = .tuple #[v, erR P O3] ∧ E = []
            | _ => False)
          ([]) (by kernel_rfl) (by kernel_rfl) hS ?_
        show wpS _ _ _ _ _ _ _ _ _ _ [0, 1, 2, 3, 4, 5, 6, 7, 8, 9, 10, 11, 12, 13, 14, 15, 16, 17] _
        apply wpS_read (i := 0) rfl rfl ⟨_, hS⟩ rfl -- Op.load 23 t10
        · intro w' hT'
          simp only [List.getElem_toArray, List.getElem_cons_zero, List.getElem_cons_succ]
          have cX := (HAT.out w' (hT'.snap 1 rfl)).1
          go_wp2_with (first
            | (refine hs_loadW hT' 2 rfl rfl 23 _ rfl rfl 32 info23 (by simp [HK.out]) _ arr23 rfl _ rfl ?_)
            | fail)
          first | exact ⟨rfl, rfl, rfl⟩ | rfl
        apply wpS_read (i := 1) rfl rfl ⟨_, hS⟩ rfl -- Op.move t14
        · intro w' hT'
          simp only [List.getElem_toArray, List.getElem_cons_zero, List.getElem_cons_succ]
          go_wp2_with fail
          first | exact ⟨rfl, rfl, rfl⟩ | rfl
        apply wpS_read (i := 2) rfl rfl ⟨_, hS⟩ rfl -- Op.binOp BinOp.add 3 t123 (const (1:i64)) 3
        · intro w' hT'
          simp only [List.getElem_toArray, List.getElem_cons_zero, List.getElem_cons_succ]
          go_wp2_with (first
            | (refine hs_loadW hT' 2 rfl rfl 23 _ rfl rfl 32 info23 (by simp [HK.out]) _ arr23 rfl _ rfl ?_)
            | fail)
          first | exact ⟨rfl, rfl, rfl⟩ | rfl
        apply wpS_read (i := 3) rfl rfl ⟨_, hS⟩ rfl -- Op.convert 3 25 t124
        · intro w' hT'
          simp only [List.getElem_toArray, List.getElem_cons_zero, List.getElem_cons_succ]
          go_wp2_with (first
            | (refine hs_loadW hT' 2 rfl rfl 23 _ rfl rfl 32 info23 (by simp [HK.out]) _ arr23 rfl _ rfl ?_)
            | fail)
          first | exact ⟨rfl, rfl, rfl⟩ | rfl
        apply wpS_read (i := 4) rfl rfl ⟨_, hS⟩ rfl -- Op.move t14
        · intro w' hT'
          simp only [List.getElem_toArray, List.getElem_cons_zero, List.getElem_cons_succ]
          go_wp2_with fail
          first | exact ⟨rfl, rfl, rfl⟩ | rfl
        apply wpS_read (i := 5) rfl rfl ⟨_, hS⟩ rfl -- Op.move t12
        · intro w' hT'
          simp only [List.getElem_toArray, List.getElem_cons_zero, List.getElem_cons_succ]
          go_wp2_with fail
          first | exact ⟨rfl, rfl, rfl⟩ | rfl
        apply wpS_read (i := 6) rfl rfl ⟨_, hS⟩ rfl -- Op.binOp BinOp.sub 3 t127 (const (1:i64)) 3
        · intro w' hT'
          simp only [List.getElem_toArray, List.getElem_cons_zero, List.getElem_cons_succ]
          go_wp2_with (first
            | (refine hs_loadW hT' 2 rfl rfl 23 _ rfl rfl 32 info23 (by simp [HK.out]) _ arr23 rfl _ rfl ?_)
            | fail)
          first | exact ⟨rfl, rfl, rfl⟩ | rfl
        apply wpS_read (i := 7) rfl rfl ⟨_, hS⟩ rfl -- Op.binOp BinOp.eql 3 t126 t128 3
        · intro w' hT'
          simp only [List.getElem_toArray, List.getElem_cons_zero, List.getElem_cons_succ]
          go_wp2_with (first
            | (refine hs_loadW hT' 2 rfl rfl 23 _ rfl rfl 32 info23 (by simp [HK.out]) _ arr23 rfl _ rfl ?_)
            | fail)
          first | exact ⟨rfl, rfl, rfl⟩ | rfl
        apply wpS_read (i := 8) rfl rfl ⟨_, hS⟩ rfl -- Op.move t11
        · intro w' hT'
          simp only [List.getElem_toArray, List.getElem_cons_zero, List.getElem_cons_succ]
          go_wp2_with fail
          first | exact ⟨rfl, rfl, rfl⟩ | rfl
        apply wpS_read (i := 9) rfl rfl ⟨_, hS⟩ rfl -- Op.move t14
        · intro w' hT'
          simp only [List.getElem_toArray, List.getElem_cons_zero, List.getElem_cons_succ]
          go_wp2_with fail
          first | exact ⟨rfl, rfl, rfl⟩ | rfl
        apply wpS_read (i := 10) rfl rfl ⟨_, hS⟩ rfl -- Op.indexAddr 28 t130 t131
        · intro w' hT'
          simp only [List.getElem_toArray, List.getElem_cons_zero, List.getElem_cons_succ]
          go_wp2_with fail
          first | exact ⟨rfl, rfl, rfl⟩ | rfl
        apply wpS_read (i := 11) rfl rfl ⟨_, hS⟩ rfl -- Op.load 24 t132
        · intro w' hT'
          simp only [List.getElem_toArray, List.getElem_cons_zero, List.getElem_cons_succ]
          have cX := (HAT.out w' (hT'.snap 1 rfl)).1
          go_wp2_with (first
            | (refine hs_loadW hT' 2 rfl rfl 23 _ rfl rfl 32 info23 (by simp [HK.out]) _ arr23 rfl _ rfl ?_)
            | fail)
          first | exact ⟨rfl, rfl, rfl⟩ | rfl
        refine wpS_soft (i := 12) rfl rfl rfl (Nat.le_of_ble_eq_true rfl) ?_ ?_ -- Op.call { value (Operand.func 17), args := #[t122, t125, t129, t133]
        · intro w' hT
          simp only [List.getElem_toArray, List.getElem_cons_zero, List.getElem_cons_succ]
          go_wp2_with (first
            | (go_at_call 17; refine (sopen_calls key ((i : Int) + 1) L1 X Ai (pn + 16) ci (hE.two.below hT.bel) HK.out rk (by omega) hXl.out.symm hXc ((HAT.out w' (hT.snap 1 rfl)).2) rX.out (by rw [hXl.out]; omega)).mono ?_; rintro e wq ⟨v, er, rfl, hop, hBq⟩; rw [hO3.out] at hop; (have her := hop.er); subst her)
            | fail)
          exact SoftP.mk' (.tuple #[v, erR P O3]) ([]) rfl (⟨v, rfl, rfl⟩) (hT.below hBq) (hBq) (fun _ h => by cases h)
        intro u12 E12 hK12
        obtain ⟨v21, rfl, rfl⟩ := hK12
        simp only [Act.put, List.setIfInBounds_toArray, List.set_cons_zero, List.set_cons_succ]
        apply wpS_read (i := 13) rfl rfl ⟨_, hS⟩ rfl -- Op.move t134
        · intro w' hT'
          simp only [List.getElem_toArray, List.getElem_cons_zero, List.getElem_cons_succ]
          go_wp2_with fail
          first | exact ⟨rfl, rfl, rfl⟩ | rfl
        apply wpS_read (i := 14) rfl rfl ⟨_, hS⟩ rfl -- Op.extract t121 0
        · intro w' hT'
          simp only [List.getElem_toArray, List.getElem_cons_zero, List.getElem_cons_succ]
          go_wp2_with fail
          first | exact ⟨rfl, rfl, rfl⟩ | rfl
        apply wpS_read (i := 15) rfl rfl ⟨_, hS⟩ rfl -- Op.extract t121 1
        · intro w' hT'
          simp only [List.getElem_toArray, List.getElem_cons_zero, List.getElem_cons_succ]
          go_wp2_with fail
          first | exact ⟨rfl, rfl, rfl⟩ | rfl
        apply wpS_read (i := 16) rfl rfl ⟨_, hS⟩ rfl -- Op.assign t135
        · intro w' hT'
          simp only [List.getElem_toArray, List.getElem_cons_zero, List.getElem_cons_succ]
          go_wp2_with fail
          first | exact ⟨rfl, rfl, rfl⟩ | rfl
        apply wpS_read (i := 17) rfl rfl ⟨_, hS⟩ rfl -- Op.assign t136
        · intro w' hT'
          simp only [List.getElem_toArray, List.getElem_cons_zero, List.getElem_cons_succ]
          go_wp2_with fail
          first | exact ⟨rfl, rfl, rfl⟩ | rfl
        refine wpS_end ?_
        intro wz21 hT
        try dsimp only
        clear hS
        have hS : HS NoF w wz21 [.os 5 (.slice A1 n1 c1) (ints .u8 zs), .snap B4 w5, .blk g10 23 (ints .u8 key)] := hT
        clear hT
        try go_wp2_with fail
        refine wp_region_S (F := NoF) (w0 := w) (L0 := [.os 5 (.slice A1 n1 c1) (ints .u8 zs), .snap B4 w5, .blk g10 23 (ints .u8 key)]) [11] []
          (fun iK u E => match iK with
            | 11 => ∃ v : Value, u = .tuple #[v, .int .i64 (codeR O2)] ∧ E = []
            | _ => False)
          ([]) (by kernel_rfl) (by kernel_rfl) hS ?_
        show wpS _ _ _ _ _ _ _ _ _ _ [0, 1, 2, 3, 4, 5, 6, 7, 8, 9, 10, 11, 12, 13, 14, 15, 16] _
        apply wpS_read (i := 0) rfl rfl ⟨_, hS⟩ rfl -- Op.load 23 t10
        · intro w' hT'
          simp only [List.getElem_toArray, List.getElem_cons_zero, List.getElem_cons_succ]
          have cX := (HAT.out w' (hT'.snap 1 rfl)).1
          go_wp2_with (first
            | (refine hs_loadW hT' 2 rfl rfl 23 _ rfl rfl 32 info23 (by simp [HK.out]) _ arr23 rfl _ rfl ?_)
            | fail)
          first | exact ⟨rfl, rfl, rfl⟩ | rfl
        apply wpS_read (i := 1) rfl rfl ⟨_, hS⟩ rfl -- Op.move t14
        · intro w' hT'
          simp only [List.getElem_toArray, List.getElem_cons_zero, List.getElem_cons_succ]
          go_wp2_with fail
          first | exact ⟨rfl, rfl, rfl⟩ | rfl
        apply wpS_read (i := 2) rfl rfl ⟨_, hS⟩ rfl -- Op.convert 3 25 t139
        · intro w' hT'
          simp only [List.getElem_toArray, List.getElem_cons_zero, List.getElem_cons_succ]
          go_wp2_with (first
            | (refine hs_loadW hT' 2 rfl rfl 23 _ rfl rfl 32 info23 (by simp [HK.out]) _ arr23 rfl _ rfl ?_)
            | fail)
          first | exact ⟨rfl, rfl, rfl⟩ | rfl
        apply wpS_read (i := 3) rfl rfl ⟨_, hS⟩ rfl -- Op.move t14
        · intro w' hT'
          simp only [List.getElem_toArray, List.getElem_cons_zero, List.getElem_cons_succ]
          go_wp2_with fail
          first | exact ⟨rfl, rfl, rfl⟩ | rfl
        apply wpS_read (i := 4) rfl rfl ⟨_, hS⟩ rfl -- Op.move t12
        · intro w' hT'
          simp only [List.getElem_toArray, List.getElem_cons_zero, List.getElem_cons_succ]
          go_wp2_with fail
          first | exact ⟨rfl, rfl, rfl⟩ | rfl
        apply wpS_read (i := 5) rfl rfl ⟨_, hS⟩ rfl -- Op.binOp BinOp.sub 3 t142 (const (1:i64)) 3
        · intro w' hT'
          simp only [List.getElem_toArray, List.getElem_cons_zero, List.getElem_cons_succ]
          go_wp2_with (first
            | (refine hs_loadW hT' 2 rfl rfl 23 _ rfl rfl 32 info23 (by simp [HK.out]) _ arr23 rfl _ rfl ?_)
            | fail)
          first | exact ⟨rfl, rfl, rfl⟩ | rfl
        apply wpS_read (i := 6) rfl rfl ⟨_, hS⟩ rfl -- Op.binOp BinOp.neq 3 t141 t143 3
        · intro w' hT'
          simp only [List.getElem_toArray, List.getElem_cons_zero, List.getElem_cons_succ]
          go_wp2_with (first
            | (refine hs_loadW hT' 2 rfl rfl 23 _ rfl rfl 32 info23 (by simp [HK.out]) _ arr23 rfl _ rfl ?_)
            | fail)
          first | exact ⟨rfl, rfl, rfl⟩ | rfl
        apply wpS_read (i := 7) rfl rfl ⟨_, hS⟩ rfl -- Op.move t11
        · intro w' hT'
          simp only [List.getElem_toArray, List.getElem_cons_zero, List.getElem_cons_succ]
          go_wp2_with fail
          first | exact ⟨rfl, rfl, rfl⟩ | rfl
        apply wpS_read (i := 8) rfl rfl ⟨_, hS⟩ rfl -- Op.move t14
        · intro w' hT'
          simp only [List.getElem_toArray, List.getElem_cons_zero, List.getElem_cons_succ]
          go_wp2_with fail
          first | exact ⟨rfl, rfl, rfl⟩ | rfl
        apply wpS_read (i := 9) rfl rfl ⟨_, hS⟩ rfl -- Op.indexAddr 28 t145 t146
        · intro w' hT'
          simp only [List.getElem_toArray, List.getElem_cons_zero, List.getElem_cons_succ]
          go_wp2_with fail
          first | exact ⟨rfl, rfl, rfl⟩ | rfl
        apply wpS_read (i := 10) rfl rfl ⟨_, hS⟩ rfl -- Op.load 24 t147
        · intro w' hT'
          simp only [List.getElem_toArray, List.getElem_cons_zero, List.getElem_cons_succ]
          have cX := (HAT.out w' (hT'.snap 1 rfl)).1
          go_wp2_with (first
            | (refine hs_loadW hT' 2 rfl rfl 23 _ rfl rfl 32 info23 (by simp [HK.out]) _ arr23 rfl _ rfl ?_)
            | fail)
          first | exact ⟨rfl, rfl, rfl⟩ | rfl
        refine wpS_soft (i := 11) rfl rfl rfl (Nat.le_of_ble_eq_true rfl) ?_ ?_ -- Op.call { value (Operand.func 18), args := #[t138, t140, t144, t148]
        · intro w' hT
          simp only [List.getElem_toArray, List.getElem_cons_zero, List.getElem_cons_succ]
          go_wp2_with (first
            | (go_at_call 18; refine (sopen16_calls key i (!L1) X Ai (pn + 16) ci _ HK.out rk (by omega) hXl.out.symm hXc ((HAT.out w' (hT.snap 1 rfl)).2) rX.out (by rw [hXl.out]; omega)).mono ?_; rintro e wq ⟨v, rfl, hop, hBq⟩; rw [hO2.out])
            | fail)
          exact SoftP.mk' (.tuple #[v, .int .i64 (codeR O2)]) ([]) rfl (⟨v, rfl, rfl⟩) (hT.below hBq) (hBq) (fun _ h => by cases h)
        intro u11 E11 hK11
        obtain ⟨v22, rfl, rfl⟩ := hK11
        simp only [Act.put, List.setIfInBounds_toArray, List.set_cons_zero, List.set_cons_succ]
        apply wpS_read (i := 12) rfl rfl ⟨_, hS⟩ rfl -- Op.move t149
        · intro w' hT'
          simp only [List.getElem_toArray, List.getElem_cons_zero, List.getElem_cons_succ]
          go_wp2_with fail
          first | exact ⟨rfl, rfl, rfl⟩ | rfl
        apply wpS_read (i := 13) rfl rfl ⟨_, hS⟩ rfl -- Op.extract t137 0
        · intro w' hT'
          simp only [List.getElem_toArray, List.getElem_cons_zero, List.getElem_cons_succ]
          go_wp2_with fail
          first | exact ⟨rfl, rfl, rfl⟩ | rfl
        apply wpS_read (i := 14) rfl rfl ⟨_, hS⟩ rfl -- Op.extract t137 1
        · intro w' hT'
          simp only [List.getElem_toArray, List.getElem_cons_zero, List.getElem_cons_succ]
          go_wp2_with fail
          first | exact ⟨rfl, rfl, rfl⟩ | rfl
        apply wpS_read (i := 15) rfl rfl ⟨_, hS⟩ rfl -- Op.assign t150
        · intro w' hT'
          simp only [List.getElem_toArray, List.getElem_cons_zero, List.getElem_cons_succ]
          go_wp2_with fail
          first | exact ⟨rfl, rfl, rfl⟩ | rfl
        apply wpS_read (i := 16) rfl rfl ⟨_, hS⟩ rfl -- Op.assign t151
        · intro w' hT'
          simp only [List.getElem_toArray, List.getElem_cons_zero, List.getElem_cons_succ]
          go_wp2_with fail
          first | exact ⟨rfl, rfl, rfl⟩ | rfl
        refine wpS_end ?_
        intro wz22 hT
        try dsimp only
        clear hS
        have hS : HS NoF w wz22 [.os 5 (.slice A1 n1 c1) (ints .u8 zs), .snap B4 w5, .blk g10 23 (ints .u8 key)] := hT
        clear hT
        try go_wp2_with fail
        refine wp_region_S (F := NoF) (w0 := w) (L0 := [.os 5 (.slice A1 n1 c1) (ints .u8 zs), .snap B4 w5, .blk g10 23 (ints .u8 key)]) [12] []
          (fun iK u E => match iK with
            | 12 => ∃ v : Value, u = .tuple #[v, .int .i64 (codeR O3)] ∧ E = []
            | _ => False)
          ([]) (by kernel_rfl) (by kernel_rfl) hS ?_
        show wpS _ _ _ _ _ _ _ _ _ _ [0, 1, 2, 3, 4, 5, 6, 7, 8, 9, 10, 11, 12, 13, 14, 15, 16, 17] _
        apply wpS_read (i := 0) rfl rfl ⟨_, hS⟩ rfl -- Op.load 23 t10
        · intro w' hT'
          simp only [List.getElem_toArray, List.getElem_cons_zero, List.getElem_cons_succ]
          have cX := (HAT.out w' (hT'.snap 1 rfl)).1
          go_wp2_with (first
            | (refine hs_loadW hT' 2 rfl rfl 23 _ rfl rfl 32 info23 (by simp [HK.out]) _ arr23 rfl _ rfl ?_)
            | fail)
          first | exact ⟨rfl, rfl, rfl⟩ | rfl
        apply wpS_read (i := 1) rfl rfl ⟨_, hS⟩ rfl -- Op.move t14
        · intro w' hT'
          simp only [List.getElem_toArray, List.getElem_cons_zero, List.getElem_cons_succ]
          go_wp2_with fail
          first | exact ⟨rfl, rfl, rfl⟩ | rfl
        apply wpS_read (i := 2) rfl rfl ⟨_, hS⟩ rfl -- Op.binOp BinOp.add 3 t154 (const (1:i64)) 3
        · intro w' hT'
          simp only [List.getElem_toArray, List.getElem_cons_zero, List.getElem_cons_succ]
          go_wp2_with (first
            | (refine hs_loadW hT' 2 rfl rfl 23 _ rfl rfl 32 info23 (by simp [HK.out]) _ arr23 rfl _ rfl ?_)
            | fail)
          first | exact ⟨rfl, rfl, rfl⟩ | rfl
        apply wpS_read (i := 3) rfl rfl ⟨_, hS⟩ rfl -- Op.convert 3 25 t155
        · intro w' hT'
          simp only [List.getElem_toArray, List.getElem_cons_zero, List.getElem_cons_succ]
          go_wp2_with (first
            | (refine hs_loadW hT' 2 rfl rfl 23 _ rfl rfl 32 info23 (by simp [HK.out]) _ arr23 rfl _ rfl ?_)
            | fail)
          first | exact ⟨rfl, rfl, rfl⟩ | rfl
        apply wpS_read (i := 4) rfl rfl ⟨_, hS⟩ rfl -- Op.move t14
        · intro w' hT'
          simp only [List.getElem_toArray, List.getElem_cons_zero, List.getElem_cons_succ]
          go_wp2_with fail
          first | exact ⟨rfl, rfl, rfl⟩ | rfl
        apply wpS_read (i := 5) rfl rfl ⟨_, hS⟩ rfl -- Op.move t12
        · intro w' hT'
          simp only [List.getElem_toArray, List.getElem_cons_zero, List.getElem_cons_succ]
          go_wp2_with fail
          first | exact ⟨rfl, rfl, rfl⟩ | rfl
        apply wpS_read (i := 6) rfl rfl ⟨_, hS⟩ rfl -- Op.binOp BinOp.sub 3 t158 (const (1:i64)) 3
        · intro w' hT'
          simp only [List.getElem_toArray, List.getElem_cons_zero, List.getElem_cons_succ]
          go_wp2_with (first
            | (refine hs_loadW hT' 2 rfl rfl 23 _ rfl rfl 32 info23 (by simp [HK.out]) _ arr23 rfl _ rfl ?_)
            | fail)
          first | exact ⟨rfl, rfl, rfl⟩ | rfl
        apply wpS_read (i := 7) rfl rfl ⟨_, hS⟩ rfl -- Op.binOp BinOp.eql 3 t157 t159 3
        · intro w' hT'
          simp only [List.getElem_toArray, List.getElem_cons_zero, List.getElem_cons_succ]
          go_wp2_with (first
            | (refine hs_loadW hT' 2 rfl rfl 23 _ rfl rfl 32 info23 (by simp [HK.out]) _ arr23 rfl _ rfl ?_)
            | fail)
          first | exact ⟨rfl, rfl, rfl⟩ | rfl
        apply wpS_read (i := 8) rfl rfl ⟨_, hS⟩ rfl -- Op.move t11
        · intro w' hT'
          simp only [List.getElem_toArray, List.getElem_cons_zero, List.getElem_cons_succ]
          go_wp2_with fail
          first | exact ⟨rfl, rfl, rfl⟩ | rfl
        apply wpS_read (i := 9) rfl rfl ⟨_, hS⟩ rfl -- Op.move t14
        · intro w' hT'
          simp only [List.getElem_toArray, List.getElem_cons_zero, List.getElem_cons_succ]
          go_wp2_with fail
          first | exact ⟨rfl, rfl, rfl⟩ | rfl
        apply wpS_read (i := 10) rfl rfl ⟨_, hS⟩ rfl -- Op.indexAddr 28 t161 t162
        · intro w' hT'
          simp only [List.getElem_toArray, List.getElem_cons_zero, List.getElem_cons_succ]
          go_wp2_with fail
          first | exact ⟨rfl, rfl, rfl⟩ | rfl
        apply wpS_read (i := 11) rfl rfl ⟨_, hS⟩ rfl -- Op.load 24 t163
        · intro w' hT'
          simp only [List.getElem_toArray, List.getElem_cons_zero, List.getElem_cons_succ]
          have cX := (HAT.out w' (hT'.snap 1 rfl)).1
          go_wp2_with (first
            | (refine hs_loadW hT' 2 rfl rfl 23 _ rfl rfl 32 info23 (by simp [HK.out]) _ arr23 rfl _ rfl ?_)
            | fail)
          first | exact ⟨rfl, rfl, rfl⟩ | rfl
        refine wpS_soft (i := 12) rfl rfl rfl (Nat.le_of_ble_eq_true rfl) ?_ ?_ -- Op.call { value (Operand.func 18), args := #[t153, t156, t160, t164]
        · intro w' hT
          simp only [List.getElem_toArray, List.getElem_cons_zero, List.getElem_cons_succ]
          go_wp2_with (first
            | (go_at_call 18; refine (sopen16_calls key ((i : Int) + 1) L1 X Ai (pn + 16) ci _ HK.out rk (by omega) hXl.out.symm hXc ((HAT.out w' (hT.snap 1 rfl)).2) rX.out (by rw [hXl.out]; omega)).mono ?_; rintro e wq ⟨v, rfl, hop, hBq⟩; rw [hO3.out])
            | fail)
          exact SoftP.mk' (.tuple #[v, .int .i64 (codeR O3)]) ([]) rfl (⟨v, rfl, rfl⟩) (hT.below hBq) (hBq) (fun _ h => by cases h)
        intro u12 E12 hK12
        obtain ⟨v23, rfl, rfl⟩ := hK12
        simp only [Act.put, List.setIfInBounds_toArray, List.set_cons_zero, List.set_cons_succ]
        apply wpS_read (i := 13) rfl rfl ⟨_, hS⟩ rfl -- Op.move t165
        · intro w' hT'
          simp only [List.getElem_toArray, List.getElem_cons_zero, List.getElem_cons_succ]
          go_wp2_with fail
          first | exact ⟨rfl, rfl, rfl⟩ | rfl
        apply wpS_read (i := 14) rfl rfl ⟨_, hS⟩ rfl -- Op.extract t152 0
        · intro w' hT'
          simp only [List.getElem_toArray, List.getElem_cons_zero, List.getElem_cons_succ]
          go_wp2_with fail
          first | exact ⟨rfl, rfl, rfl⟩ | rfl
        apply wpS_read (i := 15) rfl rfl ⟨_, hS⟩ rfl -- Op.extract t152 1
        · intro w' hT'
          simp only [List.getElem_toArray, List.getElem_cons_zero, List.getElem_cons_succ]
          go_wp2_with fail
          first | exact ⟨rfl, rfl, rfl⟩ | rfl
        apply wpS_read (i := 16) rfl rfl ⟨_, hS⟩ rfl -- Op.assign t166
        · intro w' hT'
          simp only [List.getElem_toArray, List.getElem_cons_zero, List.getElem_cons_succ]
          go_wp2_with fail
          first | exact ⟨rfl, rfl, rfl⟩ | rfl
        apply wpS_read (i := 17) rfl rfl ⟨_, hS⟩ rfl -- Op.assign t167
        · intro w' hT'
          simp only [List.getElem_toArray, List.getElem_cons_zero, List.getElem_cons_succ]
          go_wp2_with fail
          first | exact ⟨rfl, rfl, rfl⟩ | rfl
        refine wpS_end ?_
        intro wz23 hT
        try dsimp only
        clear hS
        have hS : HS NoF w wz23 [.os 5 (.slice A1 n1 c1) (ints .u8 zs), .snap B4 w5, .blk g10 23 (ints .u8 key)] := hT
        clear hT
        rcases hT2.out with h2 | ⟨y2, h2⟩ <;> rcases hT3.out with h3 | ⟨y3, h3⟩ <;> simp only [h2, h3, erR, codeR]
        · go_wp2_with (first
            | (go_at_call 19; refine (is_err_calls 109 (hE.below hS.bel) 8 (by omega)).mono ?_; rintro e wi ⟨rfl, hB⟩; replace hS := hS.below hB; clear hB)
            | fail)
          go_roundg (gk - 1)
          case measure => have := hq.out; omega
          case rel => exact ⟨i + 1, n1, c1, A1, by omega, by go_num, rfl, hc1, hid (by rw [hzs.out]; exact HN1.out), hid (by have := hq.out; omega), by rw [hzs.out]; exact hS⟩
        · go_wp2_with (first
            | (go_at_call 19; refine (is_err_calls 109 (hE.below hS.bel) 8 (by omega)).mono ?_; rintro e wi ⟨rfl, hB⟩; replace hS := hS.below hB; clear hB)
            | fail)
          go_roundg (gk - 1)
          case measure => have := hq.out; omega
          case rel => exact ⟨i + 1, n1, c1, A1, by omega, by go_num, rfl, hc1, hid (by rw [hzs.out]; exact HN1.out), hid (by have := hq.out; omega), by rw [hzs.out]; exact hS⟩
        · go_wp2_with (first
            | (go_at_call 19; refine (is_err_calls 109 (hE.below hS.bel) 8 (by omega)).mono ?_; rintro e wi ⟨rfl, hB⟩; replace hS := hS.below hB; clear hB)
            | fail)
          go_roundg (gk - 1)
          case measure => have := hq.out; omega
          case rel => exact ⟨i + 1, n1, c1, A1, by omega, by go_num, rfl, hc1, hid (by rw [hzs.out]; exact HN1.out), hid (by have := hq.out; omega), by rw [hzs.out]; exact hS⟩
        · go_wp2_with (first
            | (go_at_call 19; refine (is_err_calls 109 (hE.below hS.bel) 8 (by omega)).mono ?_; rintro e wi ⟨rfl, hB⟩; replace hS := hS.below hB; clear hB)
            | fail)
          go_roundg (gk - 1)
          case measure => have := hq.out; omega
          case rel => exact ⟨i + 1, n1, c1, A1, by omega, by go_num, rfl, hc1, hid (by rw [hzs.out]; exact HN1.out), hid (by have := hq.out; omega), by rw [hzs.out]; exact hS⟩
      · have hlt2 : ¬ (i : Int) < N := by omega
        have hiN : i = N := by omega
        subst hiN
        have hall : ys = xs := by have := take_all xs (qn : Int) i hq1 hN2.out; rw [hqt.out, hys.out] at this; exact this
        subst hall
        have hnn : no = n := by rw [← hno.out, HN.out]
        subst hnn
        have hni : Hd ((no : Int) = ys.length) := hid (by rw [hno.out])
        have hfar : Hd (pieceOf ys (qn : Int) (i : Int) = []) := hid (by have := piece_far ys (qn : Int) i 0 hq1 hN2.out (Int.le_refl _); rw [Int.add_zero] at this; exact this)
        go_wp2_with (first
          | (go_at_call 6; (refine (numberN_calls _ (i : Int) _ (by omega) (by omega)).mono ?_); rintro e wz ⟨kk, hkk, rfl, rfl⟩)
          | (go_at_call 11; refine (same_calls ys ys Ao A co c no no _ hno.out.symm hno.out.symm ((hS.os 0 rfl).rd rfl) (HRO.out hS.bel) (by rw [hno.out]; omega) (by rw [hno.out]; omega)).mono ?_; rintro e w16 ⟨rfl, n16, hw16⟩; (replace hS := hS.drewN n16); (rw [← hw16] at hS); clear hw16; (have hdy : decide (ys = ys) = true := by simp); rw [hdy])
          | fail)
        refine (piece_calls ys A no c (qn : Int) (i : Int) _ hno.out.symm hA hc (HRO.out hS.bel) (by rw [hno.out]; omega) (by omega) (by omega)).mono ?_
        rintro e w17 ⟨v17, rfl, ho, hB⟩
        rw [hfar.out] at ho
        obtain ⟨A17, c17, rfl, hc17, hA17⟩ := ho.partsL (m := 0) rfl
        replace hS := hS.below hB
        clear ho hB
        go_wp2_with fail
        obtain ⟨pl, hpl⟩ : ∃ pl, Hd ((pieceOf ys (qn : Int) (kk : Int)).length = pl) := ⟨_, hid rfl⟩
        have hplb : (pl : Int) ≤ (qn : Int) := by rw [← hpl.out]; exact (piece_len ys (qn : Int) kk i hq1 hN2.out (by omega)).1
        refine (piece_calls ys A no c (qn : Int) (kk : Int) _ hno.out.symm hA hc (HRO.out hS.bel) (by rw [hno.out]; omega) (by omega) (by omega)).mono ?_
        rintro e w18 ⟨v18, rfl, ho, hB⟩
        obtain ⟨A18, c18, rfl, hc18, hA18⟩ := ho.partsL hpl.out
        replace hS := hS.below hB
        clear ho hB
        go_wp2_with fail
        go_ret
        exact ⟨rfl, hS.bel⟩
end Go.Proofs.YtenjpmegnjdobaaDoor
