import Derived.Great.BuildSlice
import Derived.Test.YtlikinglgegclaaDoorProg
import Derived.OwnWalk
import Derived.Laws.OwnMore
import Derived.Test.YtlikinglgegclaaDoorMgDL0
import Derived.Test.YtlikinglgegclaaDoorMgDL1
import Derived.Test.YtlikinglgegclaaDoorMgDL2
import Derived.Test.YtlikinglgegclaaDoorMgDL3
import Derived.Test.YtlikinglgegclaaDoorMgDL4
import Derived.Test.YtlikinglgegclaaDoorMgDL5
import Derived.Test.YtlikinglgegclaaDoorMgDL6
import Derived.Test.YtlikinglgegclaaDoorMgDL7
set_option linter.unusedSimpArgs false
set_option linter.unusedVariables false
/- desc.Make. -/
namespace Go.Proofs.YtlikinglgegclaaDoor
open Go.RowKit Go.Cour
/-- Texts, listed, with their capacities. -/
def PRc (w : World) (A : Option Addr) (xss : List (List Int)) : Prop := xss = [] ∨ ∃ g o, A = some ⟨g, o, none⟩ ∧ ∀ (i : Nat) (X : List Int), xss[i]? = some X → ∃ Ai ci, w.cell? ⟨g, o + i, none⟩ = some (.slice Ai X.length ci) ∧ X.length ≤ ci ∧ Rd w Ai .u8 X
theorem PRc.at {w : World} {A : Option Addr} {xss : List (List Int)} (h : PRc w A xss) (i : Nat) (hi : i < xss.length) : ∃ g o X Ai ci, A = some ⟨g, o, none⟩ ∧ xss[i]? = some X ∧ w.cell? ⟨g, o + i, none⟩ = some (.slice Ai X.length ci) ∧ X.length ≤ ci ∧ Rd w Ai .u8 X := by
  rcases h with h | ⟨g, o, h1, h2⟩
  · subst h; simp at hi
  · obtain ⟨Ai, ci, h3, h4, h5⟩ := h2 i _ (List.getElem?_eq_getElem hi)
    exact ⟨g, o, _, Ai, ci, h1, List.getElem?_eq_getElem hi, h3, h4, h5⟩
theorem ownL_prc {w : World} {b : Nat} {e : TypeId} {v : Value} {xss : List (List Int)} (h : OwnL w b e 5 .u8 v xss) : ∃ A c, v = .slice A xss.length c ∧ xss.length ≤ c ∧ PRc w A xss := by
  obtain ⟨cs, hv, hl, hr⟩ := h
  obtain ⟨A, c, rfl, hc, hA, hcell⟩ := hv.parts
  refine ⟨A, c, by rw [hl], by omega, ?_⟩
  by_cases h0 : xss = []
  · exact .inl h0
  · have hpos : 0 < xss.length := List.length_pos_iff.2 h0
    obtain ⟨g, hA2, _⟩ := hcell 0 (by omega)
    refine .inr ⟨g, 0, hA2, fun i X hi => ?_⟩
    have hil := (List.getElem?_eq_some_iff.1 hi).1
    obtain ⟨g', hA3, hce⟩ := hcell i (by omega)
    rw [hA2] at hA3
    injection hA3 with hA3; injection hA3 with hA3
    subst hA3
    have h1 := hr i hil
    have e1 : xss.getD i [] = X := by rw [List.getD_eq_getElem?_getD, hi]; rfl
    have e2 : cs[i]? = some (cs.getD i undef) := by rw [List.getD_eq_getElem?_getD, List.getElem?_eq_getElem (by omega)]; rfl
    rw [e1] at h1
    obtain ⟨Ai, ci, h2, hle, _, h5⟩ := h1.slice
    exact ⟨Ai, ci, by rw [Nat.zero_add, hce, e2, h2], hle, h5⟩
theorem one_listP {w : World} {vs : List Value} {A : Option Addr} {i n c : Nat} {xs bs : List Int} (hi : [xs][i]? = some bs) (hv : vs = [.slice A n c]) (hn : xs.length = n) (hc : n ≤ c) (hx : Rd w A .u8 xs) :
    ∃ (Ai : Option Addr) (ni ci : Nat), vs[i]? = some (.slice Ai ni ci) ∧ bs.length = ni ∧ ni ≤ ci ∧ Rd w Ai .u8 bs := by
  subst hv
  match i, hi with
  | 0, hi => simp at hi; subst hi; exact ⟨A, n, c, rfl, hn, hc, hx⟩
  | i + 1, hi => simp at hi
set_option maxHeartbeats 2000000 in
set_option maxRecDepth 100000 in
theorem makeP_calls (key xs : List Int) (id q : Int) (A : Option Addr) (m c : Nat) (w : World) (hk : key.length = 32) (rk : bytesOk key)
    (rx : bytesOk xs) (hm : xs.length = m) (hA : A = none → c = 0) (hc : m ≤ c) (hr : Rd w A .u8 xs) (hl : m ≤ 600) (hq : 1 ≤ q ∧ q ≤ 64) (hi : 0 ≤ id ∧ id < 4294967296) :
    Calls Tryd.prog 10 #[.int .u32 id, .slice A m c, .int .i64 q, .agg (ints .u8 key).toArray] w fun e w' => ∃ v, e = .returned (.tuple #[.agg (descC id m q key (rootOf (hashesOf (allTexts key xs q))) (shaOf (blobOf (allTexts key xs q)))).toArray, v]) ∧ OwnS w' 5 v (ints .u8 (blobOf (allTexts key xs q))) ∧ (∀ k, v.ownBlock = some k → w.heap.size ≤ k) ∧ Below w.heap.size w w' := by
  have HK := hid hk
  have RK := hid rk
  have RX := hid rx
  have HM := hid hm
  have HA := hid hA
  have HR := hid hr
  have hS := HS.start NoF w
  have HTS := hid (allTexts_size key xs q (by omega) hq)
  have HTO := hid (allTexts_ok key xs q rx hq)
  clear hk rk rx hm hA hr
  obtain ⟨hq1, hq2⟩ := hq
  have hl2 : ¬ (600 : Int) < m := by omega
  have hq3 : ¬ q < 1 := by omega
  have hq4 : ¬ (64 : Int) < q := by omega
  go_enter Tryd.func10, Tryd.ntmps10
  go_wp2_with (first
    | (refine box_blk rfl 27 _ rfl _ rfl (ints .u8 key) rfl ?_; intro g7 w7 hga hba hBa hsa; replace hS := hS.pushBlk hBa hba hga; clear hga hba hBa hsa)
    | (refine alloc_blk rfl 32 rfl _ rfl zeroD zeroDesc ?_; intro g8 w8 hga hba hBa hsa; replace hS : HS NoF w w8 [ZD g8, .blk g7 27 (ints .u8 key)] := hS.pushBlk hBa hba hga; clear hga hba hBa hsa)
    | (refine hs_loadW hS 1 rfl rfl 27 _ rfl rfl 32 infoKeyS (by simp [HK.out]) _ arrKeyS rfl _ rfl ?_)
    | (go_at_call 35; refine (all_calls key xs q A m c _ HK.out RK.out HM.out.symm HA.out hc (hS.oldRd HR.out (fun _ _ _ h => h)) (by rw [HM.out]; omega) (by omega)).mono ?_; rintro e w5 ⟨v5, rfl, hox, hB5⟩
       replace hS := hS.pushSnap hB5; clear hB5
       obtain ⟨A5, c5, rfl, hc5, hp5⟩ := ownL_prc hox
       obtain ⟨B5, hB5⟩ : ∃ B, Hd (w8.heap.size = B) := ⟨_, hid rfl⟩
       rw [hB5.out] at hS hox
       have HP : Hd (∀ w', (∀ k, B5 ≤ k → k < w5.heap.size → w'.heap[k]? = w5.heap[k]?) → PRc w' A5 (allTexts key xs q)) := hid (fun w' hs => by
         obtain ⟨A', c', hv', _, hp⟩ := ownL_prc (OwnL.snap hox hs)
         injection hv' with h1
         subst h1
         exact hp)
       clear hox hp5)
    | fail)
  obtain ⟨ts, hts⟩ : ∃ ts, Hd (allTexts key xs q = ts) := ⟨_, hid rfl⟩
  rw [hts.out] at hc5 HTS HTO HP ⊢
  obtain ⟨N, hN⟩ : ∃ N, Hd (ts.length = N) := ⟨_, hid rfl⟩
  rw [hN.out] at hc5 HTS ⊢
  have hN6 : N ≤ 600 := HTS.out
  have hHL : Hd ((hashesOf ts).length = N) := hid (by rw [← hN.out]; simp [hashesOf])
  have hH32 := hid (hashesOf_H32 ts)
  replace hS : HS NoF w w5 [.oa 30 32 (.slice none 0 0) (rowsOf ((hashesOf ts).take 0)), .os 5 (.slice none 0 0) (ints .u8 ((hashesOf ts).take 0).flatten), .snap B5 w5, ZD g8, .blk g7 27 (ints .u8 key)] := (hS.push (Below.refl _ _) (.os 5 (.slice none 0 0) []) (OwnS.nil _ _) (fun k hk => by simp [Ent.os, Value.ownBlock] at hk)).push (Below.refl _ _) (.oa 30 32 (.slice none 0 0) []) (OwnA.nil _ _ _) (fun k hk => by simp [Ent.oa, Value.ownBlock] at hk)
  go_loopg [10, 11, 14, 36] N (fun kq v10 v11 v14 v36 wr => ∃ (i : Nat) (A1 : Option Addr) (n1 c1 : Nat) (A2 : Option Addr) (n2 c2 : Nat), i ≤ N ∧ v11 = .slice A1 n1 c1 ∧ v10 = .slice A2 n2 c2 ∧ v36 = .int .i64 i ∧ Hd (kq + i = N) ∧ HS NoF w wr [.oa 30 32 (.slice A1 n1 c1) (rowsOf ((hashesOf ts).take i)), .os 5 (.slice A2 n2 c2) (ints .u8 ((hashesOf ts).take i).flatten), .snap B5 w5, ZD g8, .blk g7 27 (ints .u8 key)])
  case atStart => exact ⟨0, none, 0, 0, none, 0, 0, Nat.zero_le _, rfl, rfl, rfl, hid (by omega), hS⟩
  case round =>
    clear hS
    obtain ⟨i, A1, n1, c1, A2, n2, c2, hi, rfl, rfl, rfl, hqq, hS⟩ := hrel
    by_cases hlt : i < N
    · obtain ⟨gx, ox, X, Ax, cx, hAx, hX, CX, CLE, RXX⟩ := (HP.out _ (hS.snap 2 rfl)).at i (by rw [hN.out]; exact hlt)
      have HX := hid hX
      have HRX := hid RXX
      have HXB := hid (HTO.out X (List.mem_of_getElem? hX))
      clear hX RXX
      obtain ⟨xn, hxn⟩ : ∃ xn, Hd (X.length = xn) := ⟨_, hid rfl⟩
      rw [hxn.out] at CX CLE
      have hYL : Hd ((leafOf X).length = 32) := hid (leafOf_length X)
      have HY : Hd ((hashesOf ts)[i]? = some (leafOf X)) := hid (by unfold hashesOf; rw [List.getElem?_map, HX.out]; rfl)
      obtain ⟨Y, hY⟩ : ∃ Y, Hd (leafOf X = Y) := ⟨_, hid rfl⟩
      rw [hY.out] at HY hYL
      have hlt2 : (i : Int) < N := by omega
      have HRR : Hd (rowsOf ((hashesOf ts).take i) ++ [ints .u8 Y] = rowsOf ((hashesOf ts).take (i + 1))) := hid (by rw [take_snoc HY.out]; simp [rowsOf])
      have HBB : Hd (((hashesOf ts).take i).flatten ++ Y = ((hashesOf ts).take (i + 1)).flatten) := hid (by rw [take_snoc HY.out]; simp)
      have HRL : Hd ((rowsOf ((hashesOf ts).take i)).length = i) := hid (by simp [rowsOf, hHL.out]; omega)
      have HBL : Hd (((hashesOf ts).take i).flatten.length ≤ 32 * 600) := hid (by
        have := flat_le (ts := (hashesOf ts).take i) (b := 32) (fun X hX => Nat.le_of_eq (hH32.out X (List.mem_of_mem_take hX)).1)
        rw [List.length_take] at this
        have h2 : min i (hashesOf ts).length ≤ 600 := by omega
        exact Nat.le_trans this (Nat.mul_le_mul_left _ h2))
      generalize rowsOf ((hashesOf ts).take i) = R at *
      generalize ((hashesOf ts).take i).flatten = B at *
      subst hAx
      go_wp2_with (first
        | (go_at_call 36; refine (leafP_calls X Ax xn cx _ hxn.out CLE HRX.out HXB.out.2 (by have := HXB.out.1; have := hxn.out; omega)).mono ?_; rintro e w6 ⟨rfl, hB6⟩; replace hS := hS.below hB6; clear CX hB6; rw [hY.out])
        | (refine alloc_blk rfl 30 rfl _ rfl (ints .u8 (List.replicate 32 0)) zeroHashS ?_; intro g14 w14 hga hba hBa hsa; replace hS := hS.pushBlk hBa hba hga; clear hga hba hBa hsa)
        | (refine hs_storeW hS 0 rfl rfl 30 _ _ rfl rfl (ints .u8 Y) rfl (ints_one' _ _) _ infoHashS (by simp [hYL.out]) (by simp) _ rfl ?_; clear hS; intro w15 hS; replace hS : HS NoF w w15 (.blk g14 30 (ints .u8 Y) :: [.oa 30 32 (.slice A1 n1 c1) R, .os 5 (.slice A2 n2 c2) (ints .u8 B), .snap B5 w5, ZD g8, .blk g7 27 (ints .u8 key)]) := hS)
        | (refine hs_loadW hS 0 rfl rfl 30 _ rfl rfl 32 infoHashS (by simp [hYL.out]) _ arrHashS rfl _ rfl ?_)
        | (refine literal_agg rfl 40 30 _ rfl (ints .u8 Y) 32 rfl (by simp [hYL.out]) undLHashT infoHashS zeroHashA (by omega) (by omega) ?_; intro g16 w16 hga hba hBa hsa; replace hS := hS.pushBlk hBa hba hga; clear hga hba hBa hsa)
        | (refine hs_appA hS 2 rfl rfl _ _ 40 rfl 32 undLHashT infoHashA (by omega) rfl g16 (ints .u8 Y) rfl (hS.blk 0 rfl) (by simp [hYL.out]) (ints_one' _ _) (by rw [HRL.out]; omega) (by rw [HRL.out]; omega) _ rfl ?_
           clear hS; intro A3 n3 c3 w17 hn3 hc3 hS; clear hn3
           replace hS : HS NoF w w17 (.blk g16 30 (ints .u8 Y) :: .blk g14 30 (ints .u8 Y) :: [.oa 30 32 (.slice A3 n3 c3) (R ++ [ints .u8 Y]), .os 5 (.slice A2 n2 c2) (ints .u8 B), .snap B5 w5, ZD g8, .blk g7 27 (ints .u8 key)]) := hS)
        | (refine hs_append hS 3 rfl rfl _ _ 24 rfl 1 undBytesS infoU8S zeroU8S rfl (some ⟨g14, 0, none⟩) 32 32 rfl (ints .u8 Y) (by rw [ints_length]; exact hYL.out) (news_of_rd (Blk.rdA (hS.blk 1 rfl))) (ints_one' _ _) (by rw [ints_length]; have := HBL.out; omega) (by rw [ints_length]; have := HBL.out; omega) _ rfl ?_
           clear hS; intro A4 n4 c4 w18 hn4 hc4 hA4 hS; clear hn4; rw [← ints_append] at hS
           replace hS : HS NoF w w18 [.oa 30 32 (.slice A3 n3 c3) (R ++ [ints .u8 Y]), .os 5 (.slice A4 n4 c4) (ints .u8 (B ++ Y)), .snap B5 w5, ZD g8, .blk g7 27 (ints .u8 key)] := (hS.erase 0).erase 0)
        | fail)
      rw [HRR.out, HBB.out] at hS
      go_roundg (gk - 1)
      case measure => have := hqq.out; omega
      case rel => exact ⟨i + 1, A3, n3, c3, A4, n4, c4, by omega, rfl, rfl, by go_num, hid (by have := hqq.out; omega), hS⟩
    · obtain rfl : i = N := by omega
      have hlt2 : ¬ (i : Int) < i := by omega
      rw [List.take_of_length_le (by rw [hHL.out]; omega)] at hS
      have HBL : Hd ((hashesOf ts).flatten.length ≤ 32 * 600) := hid (by
        have := flat_le (ts := hashesOf ts) (b := 32) (fun X hX => Nat.le_of_eq (hH32.out X hX).1)
        have h2 : (hashesOf ts).length ≤ 600 := by rw [hHL.out]; omega
        exact Nat.le_trans this (Nat.mul_le_mul_left _ h2))
      have HBO : Hd ((hashesOf ts).flatten ++ ts.flatten = blobOf ts) := hid rfl
      have HB8 : Hd (∀ x ∈ blobOf ts, B8 x) := hid (B8_append (flat_B8 fun X hX => (hH32.out X hX).2) (flat_B8 fun X hX => (HTO.out X hX).2))
      have HRF : Hd (rootF i (hashesOf ts) = rootOf (hashesOf ts)) := hid (rootF_eq _ _ _ (by rw [hHL.out]; omega) (Nat.le_refl _))
      have HRT := hid (rootF_H32 i _ hH32.out)
      have HSL : Hd ((shaOf (blobOf ts)).length = 32) := hid (shaOf_length _)
      obtain ⟨D, hD⟩ : ∃ D, Hd (shaOf (blobOf ts) = D) := ⟨_, hid rfl⟩
      rw [hD.out] at HSL
      rw [HRF.out] at HRT
      obtain ⟨RT, hRT⟩ : ∃ RT, Hd (rootOf (hashesOf ts) = RT) := ⟨_, hid rfl⟩
      rw [hRT.out] at HRT HRF
      obtain ⟨hs, hhs⟩ : ∃ hs, Hd (hashesOf ts = hs) := ⟨_, hid rfl⟩
      rw [hhs.out] at hS HBL HBO hHL hH32 HRF
      go_wp2_with fail
      clear hlt
      replace hS : HS NoF w wr [.oa 30 32 (.slice A1 n1 c1) (rowsOf hs), .os 5 (.slice A2 n2 c2) (ints .u8 (hs.flatten ++ (ts.take 0).flatten)), .snap B5 w5, ZD g8, .blk g7 27 (ints .u8 key)] := by simpa using hS
      go_loopg [10, 17, 52] i (fun kq v10 v17 v52 wr => ∃ (j : Nat) (A2 : Option Addr) (n2 c2 : Nat), j ≤ i ∧ v10 = .slice A2 n2 c2 ∧ v52 = .int .i64 j ∧ Hd (kq + j = i) ∧ HS NoF w wr [.oa 30 32 (.slice A1 n1 c1) (rowsOf hs), .os 5 (.slice A2 n2 c2) (ints .u8 (hs.flatten ++ (ts.take j).flatten)), .snap B5 w5, ZD g8, .blk g7 27 (ints .u8 key)])
      case atStart => exact ⟨0, A2, n2, c2, Nat.zero_le _, rfl, rfl, hid (by omega), hS⟩
      case round =>
        clear hS
        obtain ⟨j, A2, n2, c2, hj, rfl, rfl, hqj, hS⟩ := hrel
        by_cases hlt : j < i
        · obtain ⟨gx, ox, X, Ax, cx, hAx, hX, CX, CLE, RXX⟩ := (HP.out _ (hS.snap 2 rfl)).at j (by rw [hN.out]; exact hlt)
          have HX := hid hX
          have HRX := hid RXX
          have HXB := hid (HTO.out X (List.mem_of_getElem? hX))
          clear hX RXX
          obtain ⟨xn, hxn⟩ : ∃ xn, Hd (X.length = xn) := ⟨_, hid rfl⟩
          rw [hxn.out] at CX CLE
          have hlt3 : (j : Int) < i := by omega
          have hxb : xn ≤ 80 := by have := HXB.out.1; have := hxn.out; omega
          have HBB : Hd (hs.flatten ++ (ts.take j).flatten ++ X = hs.flatten ++ (ts.take (j + 1)).flatten) := hid (by rw [take_snoc HX.out]; simp)
          have HTL : Hd ((hs.flatten ++ (ts.take j).flatten).length ≤ 32 * 600 + 80 * 600) := hid (by
            have := flat_le (ts := ts.take j) (b := 80) (fun X hX => (HTO.out X (List.mem_of_mem_take hX)).1)
            rw [List.length_take] at this
            have h2 : min j ts.length ≤ 600 := by omega
            rw [List.length_append]
            have h3 := Nat.mul_le_mul_left 80 h2
            have := HBL.out
            omega)
          generalize hs.flatten ++ (ts.take j).flatten = B at *
          subst hAx
          go_wp2_with (first
            | (refine hs_append hS 1 rfl rfl _ _ 24 rfl 1 undBytesS infoU8S zeroU8S rfl Ax xn cx rfl (ints .u8 X) (by rw [ints_length]; exact hxn.out) (news_of_rd HRX.out) (ints_one' _ _) (by rw [ints_length]; have := HTL.out; omega) (by rw [ints_length]; have := HTL.out; omega) _ rfl ?_
               clear hS CX; intro A4 n4 c4 w18 hn4 hc4 hA4 hS; clear hn4; rw [← ints_append] at hS
               replace hS : HS NoF w w18 [.oa 30 32 (.slice A1 n1 c1) (rowsOf hs), .os 5 (.slice A4 n4 c4) (ints .u8 (B ++ X)), .snap B5 w5, ZD g8, .blk g7 27 (ints .u8 key)] := hS)
            | fail)
          rw [HBB.out] at hS
          go_roundg (gk - 1)
          case measure => have := hqj.out; omega
          case rel => exact ⟨j + 1, A4, n4, c4, by omega, rfl, by go_num, hid (by have := hqj.out; omega), hS⟩
        · obtain rfl : j = i := by omega
          have hlt3 : ¬ (j : Int) < j := by omega
          rw [List.take_of_length_le (by rw [hN.out]; omega), HBO.out] at hS
          have HBZ : Hd ((blobOf ts).length ≤ 100000) := hid (by
            have h1 := flat_le (ts := ts) (b := 80) (fun X hX => (HTO.out X hX).1)
            have h2 : ts.length ≤ 600 := by rw [hN.out]; omega
            rw [← HBO.out, List.length_append]
            have h3 := Nat.mul_le_mul_left 80 h2
            have := HBL.out
            omega)
          obtain ⟨bs, hbs⟩ : ∃ bs, Hd (blobOf ts = bs) := ⟨_, hid rfl⟩
          rw [hbs.out] at hS HBZ HB8 hD
          go_wp2_with fail
          clear hlt
          replace hS : HS NoF w wr [ZD g8, .oa 30 32 (.slice A1 n1 c1) (rowsOf hs), .os 5 (.slice A2 n2 c2) (ints .u8 bs), .snap B5 w5, .blk g7 27 (ints .u8 key)] := hS.perm (List.perm_middle (l₁ := [_, _, _]))
          try go_wp2_with fail
          refine wp_region_S (F := NoF) (w0 := w) (L0 := [.oa 30 32 (.slice A1 n1 c1) (rowsOf hs), .os 5 (.slice A2 n2 c2) (ints .u8 bs), .snap B5 w5, .blk g7 27 (ints .u8 key)]) [8, 10] [11, 14]
            (fun iK u E => match iK with
              | 8 => u = .agg (ints .u8 RT).toArray ∧ E = []
              | 10 => ∃ gl, u = .slice (some ⟨gl, 0, none⟩) 1 1 ∧ E = [.os 24 (.slice (some ⟨gl, 0, none⟩) 1 1) [.slice A2 n2 c2]]
              | _ => False)
            ([ZD g8]) (by kernel_rfl) (by kernel_rfl) hS ?_
          show wpS _ _ _ _ _ _ _ _ _ _ [0, 1, 2, 3, 4, 5, 6, 7, 8, 9, 10, 11, 12, 13, 14, 15] _
          apply wpS_read (i := 0) rfl rfl ⟨_, (HS.drop2 (E := [ZD g8]) (L := [.oa 30 32 (.slice A1 n1 c1) (rowsOf hs), .os 5 (.slice A2 n2 c2) (ints .u8 bs), .snap B5 w5, .blk g7 27 (ints .u8 key)]) hS)⟩ rfl -- Op.move t0
          · intro w' hT'
            simp only [List.getElem_toArray, List.getElem_cons_zero, List.getElem_cons_succ]
            go_wp2_with fail
            first | exact ⟨rfl, rfl, rfl⟩ | rfl
          apply wpS_read (i := 1) rfl rfl ⟨_, (HS.drop2 (E := [ZD g8]) (L := [.oa 30 32 (.slice A1 n1 c1) (rowsOf hs), .os 5 (.slice A2 n2 c2) (ints .u8 bs), .snap B5 w5, .blk g7 27 (ints .u8 key)]) hS)⟩ rfl -- Op.move t1
          · intro w' hT'
            simp only [List.getElem_toArray, List.getElem_cons_zero, List.getElem_cons_succ]
            go_wp2_with fail
            first | exact ⟨rfl, rfl, rfl⟩ | rfl
          apply wpS_read (i := 2) rfl rfl ⟨_, (HS.drop2 (E := [ZD g8]) (L := [.oa 30 32 (.slice A1 n1 c1) (rowsOf hs), .os 5 (.slice A2 n2 c2) (ints .u8 bs), .snap B5 w5, .blk g7 27 (ints .u8 key)]) hS)⟩ rfl -- Op.call { builtin len, args := #[t61], argTypes := #[24] }
          · intro w' hT'
            simp only [List.getElem_toArray, List.getElem_cons_zero, List.getElem_cons_succ]
            go_wp2_with fail
            first | exact ⟨rfl, rfl, rfl⟩ | rfl
          apply wpS_read (i := 3) rfl rfl ⟨_, (HS.drop2 (E := [ZD g8]) (L := [.oa 30 32 (.slice A1 n1 c1) (rowsOf hs), .os 5 (.slice A2 n2 c2) (ints .u8 bs), .snap B5 w5, .blk g7 27 (ints .u8 key)]) hS)⟩ rfl -- Op.convert 3 29 t62
          · intro w' hT'
            simp only [List.getElem_toArray, List.getElem_cons_zero, List.getElem_cons_succ]
            go_wp2_with (first
              | (refine hs_loadW hT' 3 rfl rfl 27 _ rfl rfl 32 infoKeyS (by simp [HK.out]) _ arrKeyS rfl _ rfl ?_)
              | (refine build_to rfl 32 _ rfl (descC id m q key RT D).toArray (by rw [Array.toList_map]; exact builtDesc _ _ _ _ _ _ HK.out HRT.out.1 HSL.out) ?_)
              | fail)
            first | exact ⟨rfl, rfl, rfl⟩ | rfl
          apply wpS_read (i := 4) rfl rfl ⟨_, (HS.drop2 (E := [ZD g8]) (L := [.oa 30 32 (.slice A1 n1 c1) (rowsOf hs), .os 5 (.slice A2 n2 c2) (ints .u8 bs), .snap B5 w5, .blk g7 27 (ints .u8 key)]) hS)⟩ rfl -- Op.move t2
          · intro w' hT'
            simp only [List.getElem_toArray, List.getElem_cons_zero, List.getElem_cons_succ]
            go_wp2_with fail
            first | exact ⟨rfl, rfl, rfl⟩ | rfl
          apply wpS_read (i := 5) rfl rfl ⟨_, (HS.drop2 (E := [ZD g8]) (L := [.oa 30 32 (.slice A1 n1 c1) (rowsOf hs), .os 5 (.slice A2 n2 c2) (ints .u8 bs), .snap B5 w5, .blk g7 27 (ints .u8 key)]) hS)⟩ rfl -- Op.convert 3 29 t64
          · intro w' hT'
            simp only [List.getElem_toArray, List.getElem_cons_zero, List.getElem_cons_succ]
            go_wp2_with (first
              | (refine hs_loadW hT' 3 rfl rfl 27 _ rfl rfl 32 infoKeyS (by simp [HK.out]) _ arrKeyS rfl _ rfl ?_)
              | (refine build_to rfl 32 _ rfl (descC id m q key RT D).toArray (by rw [Array.toList_map]; exact builtDesc _ _ _ _ _ _ HK.out HRT.out.1 HSL.out) ?_)
              | fail)
            first | exact ⟨rfl, rfl, rfl⟩ | rfl
          apply wpS_read (i := 6) rfl rfl ⟨_, (HS.drop2 (E := [ZD g8]) (L := [.oa 30 32 (.slice A1 n1 c1) (rowsOf hs), .os 5 (.slice A2 n2 c2) (ints .u8 bs), .snap B5 w5, .blk g7 27 (ints .u8 key)]) hS)⟩ rfl -- Op.load 27 t7
          · intro w' hT'
            simp only [List.getElem_toArray, List.getElem_cons_zero, List.getElem_cons_succ]
            go_wp2_with (first
              | (refine hs_loadW hT' 3 rfl rfl 27 _ rfl rfl 32 infoKeyS (by simp [HK.out]) _ arrKeyS rfl _ rfl ?_)
              | (refine build_to rfl 32 _ rfl (descC id m q key RT D).toArray (by rw [Array.toList_map]; exact builtDesc _ _ _ _ _ _ HK.out HRT.out.1 HSL.out) ?_)
              | fail)
            first | exact ⟨rfl, rfl, rfl⟩ | rfl
          apply wpS_read (i := 7) rfl rfl ⟨_, (HS.drop2 (E := [ZD g8]) (L := [.oa 30 32 (.slice A1 n1 c1) (rowsOf hs), .os 5 (.slice A2 n2 c2) (ints .u8 bs), .snap B5 w5, .blk g7 27 (ints .u8 key)]) hS)⟩ rfl -- Op.move t11
          · intro w' hT'
            simp only [List.getElem_toArray, List.getElem_cons_zero, List.getElem_cons_succ]
            go_wp2_with fail
            first | exact ⟨rfl, rfl, rfl⟩ | rfl
          refine wpS_soft (i := 8) rfl rfl rfl (Nat.le_of_ble_eq_true rfl) ?_ ?_ -- Op.call { value (Operand.func 41), args := #[t67], argTypes := #[40]
          · intro w' hT
            simp only [List.getElem_toArray, List.getElem_cons_zero, List.getElem_cons_succ]
            go_wp2_with (first
              | (go_at_call 37; refine (rootP_calls j hs A1 n1 c1 _ (ownA_hrd (hT.oa 0 rfl)).2.1.symm (by rw [(ownA_hrd (hT.oa 0 rfl)).2.1, hHL.out]; omega) (ownA_hrd (hT.oa 0 rfl)).1 hH32.out (ownA_hrd (hT.oa 0 rfl)).2.2 (by rw [(ownA_hrd (hT.oa 0 rfl)).2.1, hHL.out]; omega)).mono ?_; rintro e w6 ⟨rfl, hB6⟩; rw [HRF.out])
              | fail)
            exact SoftP.mk' (.agg (ints .u8 RT).toArray) ([]) rfl (⟨rfl, rfl⟩) (hT.below hB6) (hB6) (fun _ h => by cases h)
          intro u8 E8 hK8
          obtain ⟨rfl, rfl⟩ := hK8
          simp only [Act.put, List.setIfInBounds_toArray, List.set_cons_zero, List.set_cons_succ]
          apply wpS_read (i := 9) rfl rfl ⟨_, (HS.drop2 (E := [ZD g8]) (L := [.oa 30 32 (.slice A1 n1 c1) (rowsOf hs), .os 5 (.slice A2 n2 c2) (ints .u8 bs), .snap B5 w5, .blk g7 27 (ints .u8 key)]) hS)⟩ rfl -- Op.move t10
          · intro w' hT'
            simp only [List.getElem_toArray, List.getElem_cons_zero, List.getElem_cons_succ]
            go_wp2_with fail
            first | exact ⟨rfl, rfl, rfl⟩ | rfl
          refine wpS_soft (i := 10) rfl rfl rfl (Nat.le_of_ble_eq_true rfl) ?_ ?_ -- Op.buildSlice 89 1 #[(0, t69)]
          · intro w' hT
            simp only [List.getElem_toArray, List.getElem_cons_zero, List.getElem_cons_succ]
            go_wp2_with (first
              | (refine hs_one hT rfl 83 24 _ rfl undLB2 sizeBytes2 zeroBytes2 (.slice A2 n2 c2) rfl rfl _ rfl ?_; clear hT; intro gl wl hgl hBl hT)
              | fail)
            exact SoftP.mk' (.slice (some ⟨gl, 0, none⟩) 1 1) ([.os 24 (.slice (some ⟨gl, 0, none⟩) 1 1) [.slice A2 n2 c2]]) rfl (⟨gl, rfl, rfl⟩) (hT) (hBl) (fun e he j hj => by obtain rfl := List.mem_singleton.1 he; exact Nat.le_of_eq (hgl.trans (by simpa [Ent.os, Value.ownBlock] using hj)))
          intro u10 E10 hK10
          obtain ⟨gl, rfl, rfl⟩ := hK10
          simp only [Act.put, List.setIfInBounds_toArray, List.set_cons_zero, List.set_cons_succ]
          refine wpS_hard (i := 11) rfl rfl ?_ -- Op.call { value (Operand.func 42), args := #[t70], argTypes := #[89]
          intro w11 hT
          replace hT : HS NoF w w11 [.os 24 (.slice (some ⟨gl, 0, none⟩) 1 1) [.slice A2 n2 c2], ZD g8, .oa 30 32 (.slice A1 n1 c1) (rowsOf hs), .os 5 (.slice A2 n2 c2) (ints .u8 bs), .snap B5 w5, .blk g7 27 (ints .u8 key)] := hT
          simp only [List.getElem_toArray, List.getElem_cons_zero, List.getElem_cons_succ]
          go_wp2_with (first
            | (go_at_call 38; refine (shasum_calls [bs] 1 1 (some ⟨gl, 0, none⟩) _ rfl (rdL_of (os_cells (hT.os 0 rfl)) (fun i xs hi => one_listP hi rfl (by have := (hT.os 3 rfl).len.1; rw [ints_length] at this; omega) (hT.os 3 rfl).len.2.1 ((hT.os 3 rfl).rd rfl))) (fun xs hx => by rw [List.mem_singleton.1 hx]; exact HB8.out) (by simp; have := HBZ.out; omega) (by decide)).mono ?_; rintro e w6 ⟨rfl, hB6⟩; replace hT := hT.below hB6; rw [show shaOf [bs].flatten = D by rw [← hD.out]; simp])
            | fail)
          refine HardP.mk' ([.os 24 (.slice (some ⟨gl, 0, none⟩) 1 1) [.slice A2 n2 c2], ZD g8]) rfl ?_ ?_
          · exact hT
          clear hT
          apply wpS_read (i := 12) rfl rfl ⟨_, (HS.drop2 (E := [ZD g8]) (L := [.oa 30 32 (.slice A1 n1 c1) (rowsOf hs), .os 5 (.slice A2 n2 c2) (ints .u8 bs), .snap B5 w5, .blk g7 27 (ints .u8 key)]) hS)⟩ rfl -- Op.build 32 #[(0, t60), (1, t63), (2, t65), (3, t66), (4, t68), (5, t
          · intro w' hT'
            simp only [List.getElem_toArray, List.getElem_cons_zero, List.getElem_cons_succ]
            go_wp2_with (first
              | (refine hs_loadW hT' 3 rfl rfl 27 _ rfl rfl 32 infoKeyS (by simp [HK.out]) _ arrKeyS rfl _ rfl ?_)
              | (refine build_to rfl 32 _ rfl (descC id m q key RT D).toArray (by rw [Array.toList_map]; exact builtDesc _ _ _ _ _ _ HK.out HRT.out.1 HSL.out) ?_)
              | fail)
            first | exact ⟨rfl, rfl, rfl⟩ | rfl
          apply wpS_read (i := 13) rfl rfl ⟨_, (HS.drop2 (E := [ZD g8]) (L := [.oa 30 32 (.slice A1 n1 c1) (rowsOf hs), .os 5 (.slice A2 n2 c2) (ints .u8 bs), .snap B5 w5, .blk g7 27 (ints .u8 key)]) hS)⟩ rfl -- Op.move t10
          · intro w' hT'
            simp only [List.getElem_toArray, List.getElem_cons_zero, List.getElem_cons_succ]
            go_wp2_with fail
            first | exact ⟨rfl, rfl, rfl⟩ | rfl
          refine wpS_hard (i := 14) rfl rfl ?_ -- Op.store 32 t8 t72
          intro w14 hT
          replace hT : HS NoF w w14 [.os 24 (.slice (some ⟨gl, 0, none⟩) 1 1) [.slice A2 n2 c2], ZD g8, .oa 30 32 (.slice A1 n1 c1) (rowsOf hs), .os 5 (.slice A2 n2 c2) (ints .u8 bs), .snap B5 w5, .blk g7 27 (ints .u8 key)] := hT
          simp only [List.getElem_toArray, List.getElem_cons_zero, List.getElem_cons_succ]
          go_wp2_with (first
            | (refine hs_storeW hT 1 rfl rfl 32 _ _ rfl rfl (descC id m q key RT D) rfl (descC_one _ _ _ _ _ _) 99 sizeDesc (descC_length HK.out HRT.out.1 HSL.out) zeroD_length _ rfl ?_; clear hT; intro w9 hT)
            | fail)
          refine HardP.mk' ([.os 24 (.slice (some ⟨gl, 0, none⟩) 1 1) [.slice A2 n2 c2], .blk g8 32 (descC id m q key RT D)]) rfl ?_ ?_
          · exact hT
          clear hT
          apply wpS_read (i := 15) rfl rfl ⟨_, (HS.drop2 (E := [ZD g8]) (L := [.oa 30 32 (.slice A1 n1 c1) (rowsOf hs), .os 5 (.slice A2 n2 c2) (ints .u8 bs), .snap B5 w5, .blk g7 27 (ints .u8 key)]) hS)⟩ rfl -- Op.assign t73
          · intro w' hT'
            simp only [List.getElem_toArray, List.getElem_cons_zero, List.getElem_cons_succ]
            go_wp2_with fail
            first | exact ⟨rfl, rfl, rfl⟩ | rfl
          refine wpS_end ?_
          intro wz hT
          try dsimp only
          clear hS
          have hS : HS NoF w wz [.blk g8 32 (descC id m q key RT D), .oa 30 32 (.slice A1 n1 c1) (rowsOf hs), .os 5 (.slice A2 n2 c2) (ints .u8 bs), .snap B5 w5, .blk g7 27 (ints .u8 key)] := hT.erase 0
          clear hT
          go_wp2_with fail
          refine bodyPost_ret (results_str2 rfl _ _ g8 _ _ (.slice A2 n2 c2) _ rfl rfl (hS.blk 0 rfl) Tryd.underlying32 (by rw [descC_length HK.out HRT.out.1 HSL.out]; exact sizeDesc)) rfl ⟨_, by rw [hts.out, hRT.out, hbs.out, hD.out], by rw [hts.out, hbs.out]; exact hS.os 2 rfl, fun k hk => (hS.own _ (List.mem_of_getElem? (i := 2) rfl) k hk).resolve_left (fun h => h), hS.bel⟩
theorem builtD0 : Tryd.prog.built 32 [] = some zeroD.toArray := by kernel_rfl
set_option maxHeartbeats 1000000 in
set_option maxRecDepth 100000 in
theorem makeP_long (key : List Int) (id q : Int) (A : Option Addr) (m c : Nat) (w : World) (hm : 600 < m) :
    Calls Tryd.prog 10 #[.int .u32 id, .slice A m c, .int .i64 q, .agg (ints .u8 key).toArray] w fun e w' => e = .returned (.tuple #[.agg zeroD.toArray, .slice none 0 0]) ∧ Below w.heap.size w w' := by
  have hS := HS.start NoF w
  have hl2 : (600 : Int) < m := by omega
  have HZ1 := hid zeroD_length
  have HZD := hid zeroDesc
  have HZO := hid (descC_one 0 0 0 (List.replicate 32 0) (List.replicate 32 0) (List.replicate 32 0))
  have HB0 := hid builtD0
  change Hd (∀ v ∈ zeroD, v.oneCell' = true) at HZO
  generalize zeroD = Z at *
  go_enter Tryd.func10, Tryd.ntmps10
  go_wp2_with (first
    | (refine box_blk rfl 27 _ rfl _ rfl (ints .u8 key) rfl ?_; intro g7 w7 hga hba hBa hsa; replace hS := hS.pushBlk hBa hba hga; clear hga hba hBa hsa)
    | (refine alloc_blk rfl 32 rfl _ rfl Z HZD.out ?_; intro g8 w8 hga hba hBa hsa; replace hS := hS.pushBlk hBa hba hga; clear hga hba hBa hsa)
    | (refine build_to rfl 32 _ rfl Z.toArray (by rw [Array.toList_map]; exact HB0.out) ?_)
    | (refine hs_storeW hS 0 rfl rfl 32 _ _ rfl rfl Z rfl HZO.out 99 sizeDesc HZ1.out HZ1.out _ rfl ?_; clear hS; intro w9 hS)
    | fail)
  refine bodyPost_ret (results_str2 rfl _ _ g8 _ _ (.slice none 0 0) _ rfl rfl (hS.blk 0 rfl) Tryd.underlying32 (by rw [HZ1.out]; exact sizeDesc)) rfl ⟨rfl, hS.bel⟩
end Go.Proofs.YtlikinglgegclaaDoor
/- Pieces of a file: what counts them, what they are together. -/
namespace Go.Proofs.YtlikinglgegclaaDoor
open Go.RowKit Go.Cour
/-- Count, of a file of L bytes, by chunks of C. -/
theorem count_facts (L : Nat) (C : Int) (hC : 1 ≤ C) : ∃ d : Int, (L : Int) / C = d ∧ 0 ≤ d ∧ d * C ≤ L ∧ (L : Int) < (d + 1) * C ∧ countI L C = max (if d * C < L then d + 1 else d) 1 := by
  have m1 : max C 1 = C := by omega
  have m2 : max (L : Int) 0 = L := by omega
  refine ⟨(L : Int) / C, rfl, Int.ediv_nonneg (by omega) (by omega), Int.ediv_mul_le _ (by omega), ?_, ?_⟩
  · exact Int.lt_ediv_add_one_mul_self _ (by omega)
  · unfold countI countD
    rw [m1, m2]
theorem mul_lt_of {a b C : Int} (hC : 1 ≤ C) (h : a * C < b * C) : a < b := Int.lt_of_mul_lt_mul_right h (by omega)
/-- A piece that is there. -/
theorem pieceOf_at (xs : List Int) (C : Int) (i : Nat) (hC : 1 ≤ C) (hi : (i : Int) ≤ (xs.length : Int) / C) : pieceOf xs C i = (xs.drop (i * C.toNat)).take C.toNat := by
  have m1 : max C 1 = C := by omega
  have e : ((i : Int) * C).toNat = i * C.toNat := by
    have hc2 : C = (C.toNat : Int) := by omega
    rw [hc2, ← Int.natCast_mul, Int.toNat_natCast, Int.toNat_natCast]
  rw [pieceOf, m1, if_neg (by omega), e]
theorem lt_count (L : Nat) (C : Int) (hC : 1 ≤ C) (i : Nat) (h : (i : Int) < countI L C) : (i : Int) ≤ (L : Int) / C := by
  obtain ⟨d, h1, h2, h3, h4, h5⟩ := count_facts L C hC
  rw [h1]
  rw [h5] at h
  generalize d * C = e at *
  split at h <;> omega
theorem take_piece (xs : List Int) (C : Int) (i : Nat) (hC : 1 ≤ C) (h : (i : Int) < countI xs.length C) :
    xs.take (i * C.toNat) ++ pieceOf xs C i = xs.take ((i + 1) * C.toNat) := by
  rw [pieceOf_at xs C i hC (lt_count _ C hC i h), Nat.add_mul, Nat.one_mul, List.take_add]
theorem take_all (xs : List Int) (C : Int) (N : Nat) (hC : 1 ≤ C) (h : countI xs.length C = (N : Int)) : xs.take (N * C.toNat) = xs := by
  obtain ⟨d, h1, h2, h3, h4, h5⟩ := count_facts xs.length C hC
  refine List.take_of_length_le ?_
  have e : ((N * C.toNat : Nat) : Int) = (N : Int) * C := by
    have hc2 : C = (C.toNat : Int) := by omega
    rw [Int.natCast_mul, ← hc2]
  have h6 : (xs.length : Int) ≤ (N : Int) * C := by
    rw [← h, h5]
    split
    · have : (d + 1) * C ≤ max (d + 1) 1 * C := Int.mul_le_mul_of_nonneg_right (by omega) (by omega)
      omega
    · have : d * C ≤ max d 1 * C := Int.mul_le_mul_of_nonneg_right (by omega) (by omega)
      omega
  omega
/-- How long a piece is. -/
theorem piece_len (xs : List Int) (C : Int) (i N : Nat) (hC : 1 ≤ C) (h : countI xs.length C = (N : Int)) (hi : i < N) :
    ((pieceOf xs C i).length : Int) ≤ C ∧ (i + 1 < N → ((pieceOf xs C i).length : Int) = C) ∧ (i + 1 = N → (pieceOf xs C i).length = 0 → xs.length = 0) := by
  obtain ⟨d, h1, h2, h3, h4, h5⟩ := count_facts xs.length C hC
  have hid := lt_count xs.length C hC i (by omega)
  rw [pieceOf_at xs C i hC hid, List.length_take, List.length_drop]
  rw [h1] at hid
  have e : ((i * C.toNat : Nat) : Int) = (i : Int) * C := by
    have hc2 : C = (C.toNat : Int) := by omega
    rw [Int.natCast_mul, ← hc2]
  have h6 : (i : Int) * C ≤ d * C := Int.mul_le_mul_of_nonneg_right hid (by omega)
  have h7 : i + 1 < N → ((i : Int) + 1) * C ≤ d * C := fun hlt => by
    refine Int.mul_le_mul_of_nonneg_right ?_ (by omega)
    rw [h5] at h
    generalize d * C = e at *
    split at h <;> omega
  have h8 : i + 1 = N → (i : Int) * C < xs.length ∨ xs.length = 0 := fun hlt => by
    rw [h5] at h
    split at h
    · have : (i : Int) = d := by omega
      rw [this]
      omega
    · by_cases hd : d = 0
      · subst hd
        right
        rw [Int.zero_mul] at *
        omega
      · left
        have : (i : Int) = d - 1 := by omega
        rw [this, Int.sub_mul, Int.one_mul]
        omega
  have h9 : ((i : Int) + 1) * C = (i : Int) * C + C := by rw [Int.add_mul, Int.one_mul]
  rw [h9] at h7
  generalize (i : Int) * C = ic at *
  generalize i * C.toNat = ic' at *
  generalize d * C = dc at *
  refine ⟨by omega, fun hlt => ?_, fun hlt hz => ?_⟩
  · have := h7 hlt
    omega
  · have := h8 hlt
    omega
/-- Beyond them there is nothing. -/
theorem piece_far (xs : List Int) (C : Int) (N : Nat) (far : Int) (hC : 1 ≤ C) (h : countI xs.length C = (N : Int)) (hf : 0 ≤ far) : pieceOf xs C ((N : Int) + far) = [] := by
  obtain ⟨d, h1, h2, h3, h4, h5⟩ := count_facts xs.length C hC
  have m1 : max C 1 = C := by omega
  unfold pieceOf
  rw [m1, h1]
  by_cases hlt : d < (N : Int) + far
  · rw [if_pos (.inr hlt)]
  · have hd : (N : Int) + far = d := by
      rw [h5] at h
      generalize d * C = e at *
      split at h <;> omega
    have hz : d * C = xs.length := by
      rw [h5] at h
      split at h
      · omega
      · generalize d * C = e at *; omega
    rw [if_neg (by omega), hd, List.drop_eq_nil_of_le (by omega), List.take_nil]
theorem piece_neg (xs : List Int) (C i : Int) (h : i < 0) : pieceOf xs C i = [] := by rw [pieceOf, if_pos (.inl h)]
theorem count_zero (L : Nat) : countI L 0 = max (L : Int) 1 := by
  have h : (max (L : Int) 0 / max 0 1) = L := by
    rw [show max (0 : Int) 1 = 1 from rfl, Int.ediv_one]; omega
  unfold countI countD
  rw [h, show max (0 : Int) 1 = 1 from rfl, Int.mul_one, if_neg (by omega)]
theorem count_neg (p q : Int) (h : p < 0) : countI p q = 1 := by
  unfold countI countD
  rw [show max p 0 = 0 by omega, Int.zero_ediv, Int.zero_mul, if_neg (by omega)]
  rfl
end Go.Proofs.YtlikinglgegclaaDoor
/- What a blob is, plainly: where its leaves and chunks lie. -/
namespace Go.Proofs.YtlikinglgegclaaDoor
open Go.RowKit Go.Cour
theorem flat_at {α : Type} : ∀ (ts : List (List α)) (i : Nat) (X : List α), ts[i]? = some X → (ts.flatten.drop ((ts.take i).flatten.length)).take X.length = X
  | [], i, X, h => by simp at h
  | T :: ts, 0, X, h => by
    simp at h
    subst h
    simp
  | T :: ts, i + 1, X, h => by
    have h' : ts[i]? = some X := by simpa using h
    have := flat_at ts i X h'
    rw [List.take_succ_cons, List.flatten_cons, List.flatten_cons, List.length_append, ← List.drop_drop, List.drop_left]
    exact this
theorem leaves_len (ts : List (List Int)) : (hashesOf ts).flatten.length = 32 * ts.length := by
  unfold hashesOf
  induction ts with
  | nil => simp
  | cons x l ih => simp only [List.map_cons, List.flatten_cons, List.length_append, leafOf_length, ih, List.length_cons]; omega
/-- A leaf in the blob. -/
theorem blob_leaf (ts : List (List Int)) (i : Nat) (X : List Int) (h : ts[i]? = some X) : ((blobOf ts).drop (32 * i)).take 32 = leafOf X := by
  have hi := (List.getElem?_eq_some_iff.1 h).1
  have h1 : (hashesOf ts)[i]? = some (leafOf X) := by unfold hashesOf; rw [List.getElem?_map, h]; rfl
  have h2 := flat_at _ i _ h1
  have h3 : ((hashesOf ts).take i).flatten.length = 32 * i := by
    have : (hashesOf ts).take i = hashesOf (ts.take i) := by unfold hashesOf; rw [List.map_take]
    rw [this, leaves_len, List.length_take, Nat.min_eq_left (by omega)]
  rw [h3, leafOf_length] at h2
  unfold blobOf
  rw [List.drop_append_of_le_length (by rw [leaves_len]; omega), List.take_append_of_le_length (by rw [List.length_drop, leaves_len]; omega)]
  exact h2
/-- A chunk in the blob. -/
theorem blob_chunk (ts : List (List Int)) (i p : Nat) (X : List Int) (h : ts[i]? = some X) (hp : 32 * ts.length + (ts.take i).flatten.length = p) : ((blobOf ts).drop p).take X.length = X := by
  subst hp
  unfold blobOf
  rw [← List.drop_drop, ← leaves_len, List.drop_left]
  exact flat_at ts i X h
section
variable (key xs : List Int) (q N : Nat)
theorem texts_flat (hq : 1 ≤ q) (hN : countI xs.length q = (N : Int)) : ∀ j, j ≤ N → (allTo key xs q N j).flatten.length = min (j * q) xs.length + 16 * j
  | 0, _ => by simp [allTo]
  | j + 1, h => by
    have ih := texts_flat hq hN j (by omega)
    have hp := take_piece xs q j (by omega) (by omega)
    have hl := congrArg List.length hp
    rw [List.length_append, List.length_take, List.length_take, Int.toNat_natCast] at hl
    rw [allTo_succ, List.flatten_append, List.length_append, ih]
    simp only [List.flatten_cons, List.flatten_nil, List.append_nil, ssealText, sealText_length]
    omega
theorem text_at (hN : countI xs.length q = (N : Int)) (i : Nat) (hi : i < N) : (allTexts key xs q)[i]? = some (ssealText key i ((i : Int) == (N : Int) - 1) (pieceOf xs q i)) := by
  rw [allTexts, hN]
  simp [allTo, hi]
theorem texts_take (hN : countI xs.length q = (N : Int)) (i : Nat) (hi : i ≤ N) : (allTexts key xs q).take i = allTo key xs q N i := by
  rw [allTexts, hN]
  unfold allTo
  rw [← List.map_take, Int.toNat_natCast, List.take_range, Nat.min_eq_left hi]
theorem piece_at (hq : 1 ≤ q) (hN : countI xs.length q = (N : Int)) (i : Nat) (hi : i < N) : i * q ≤ xs.length ∧ pieceOf xs q i = (xs.drop (i * q)).take q ∧ (pieceOf xs q i).length = min q (xs.length - i * q) := by
  have h1 := lt_count xs.length q (by omega) i (by omega)
  have h2 := pieceOf_at xs q i (by omega) h1
  rw [Int.toNat_natCast] at h2
  have h3 : (i : Int) * q ≤ xs.length := by
    have a := Int.ediv_mul_le (xs.length : Int) (b := (q : Int)) (by omega)
    have b := Int.mul_le_mul_of_nonneg_right h1 (show (0 : Int) ≤ q by omega)
    omega
  refine ⟨by have : ((i * q : Nat) : Int) = (i : Int) * q := by simp
             omega, h2, ?_⟩
  rw [h2, List.length_take, List.length_drop]
/-- The blob's own length. -/
theorem blob_len (hq : 1 ≤ q) (hN : countI xs.length q = (N : Int)) : (blobOf (allTexts key xs q)).length = N * 48 + xs.length := by
  have h1 := texts_flat key xs q N hq hN N (Nat.le_refl _)
  have h2 := congrArg List.length (take_all xs q N (by omega) hN)
  rw [List.length_take, Int.toNat_natCast] at h2
  have h3 : allTexts key xs q = allTo key xs q N N := by rw [allTexts, hN]; rfl
  unfold blobOf
  rw [List.length_append, leaves_len, h3, allTo_length, h1, h2]
  omega
end
end Go.Proofs.YtlikinglgegclaaDoor
/- Errors held against each other; faults as plain data. -/
namespace Go.Proofs.YtlikinglgegclaaDoor
open Go.RowKit Go.Cour
set_option maxHeartbeats 400000 in
theorem alike_calls {w : World} {P : Nat → Addr} (h : Errs w P) (i j : Nat) (hi : i < 19) (hj : j < 19) :
    Calls Tryd.prog 78 #[errV (P i), errV (P j)] w fun e w' => e = .returned (.bool (decide (i = j))) ∧ w' = w := by
  have h1 := err_eql h i j hi hj
  have h2 := err_nil_right (P i) w
  have h3 := err_nil_right (P j) w
  have h4 := fun op t x y v => eqGuard_err op t x y (P i) v
  have h5 := fun op t x y v => eqGuard_err op t x y (P j) v
  generalize errV (P i) = x at *
  generalize errV (P j) = y at *
  go_enter Tryd.func78, Tryd.ntmps78
  go_wp2_with fail
  go_ret
  exact ⟨rfl, rfl⟩
/-- A fault's cells. -/
def faultC (c : Int) (p : Bool) (n : Int) : List Value := [.int .i64 c, .bool p, .int .i64 n]
theorem infoF : (Tryd.prog.info? 59).map (·.size) = some 3 := by kernel_rfl
theorem zeroF : ((Tryd.prog.info? 59).bind (·.zero)).map (·.cells) = some (faultC 0 false 0).toArray := by kernel_rfl
theorem undF : ∃ fs, Tryd.prog.underlying 59 = some (.struct fs) := ⟨_, Tryd.underlying59⟩
theorem oneF (c : Int) (p : Bool) (n : Int) : (faultC c p n).toArray.all (·.oneCell') = true := by simp [faultC, Value.oneCell']
theorem results_str1 {P : Program} {fn : Func} {p : Tmp} {ty : TypeId} (h : fn.results = #[.cell p ty]) (tmps : Array Value) (w : World) (g : Nat) (t : TypeId) (cs : List Value) (fs : _)
    (hp : tmps.getD p undef = .pointer (some ⟨g, 0, none⟩)) (hg : Blk w g t cs)
    (hu : P.underlying ty = some (.struct fs)) (hi : (P.info? ty).map (·.size) = some cs.length) :
    (results fn tmps).run P w = .ok (.agg cs.toArray) w :=
  results_cell_row h tmps w g t cs.toArray (0, 0) _ hp hg hu rfl (by rw [hi]; simp)
set_option maxHeartbeats 400000 in
theorem none_calls (w : World) : Calls Tryd.prog 54 #[] w fun e w' => e = .returned (.agg (faultC 0 false 0).toArray) ∧ Below w.heap.size w w' := by
  obtain ⟨fs, hfs⟩ := undF
  go_enter Tryd.func54, Tryd.ntmps54
  go_wp2_with (first
    | (refine alloc_blk rfl 59 rfl _ rfl (faultC 0 false 0) zeroF ?_; intro g1 w1 hg1 hb1 hB1 hs1)
    | (refine store_blk rfl 59 _ _ rfl g1 (faultC 0 false 0) rfl rfl 59 _ hb1 3 infoF rfl rfl (oneF _ _ _) ?_)
    | fail)
  refine bodyPost_ret (results_str1 rfl _ _ g1 59 _ fs rfl (hb1.setRow (faultC 0 false 0)) hfs infoF) rfl ?_
  exact ⟨rfl, below_setRow hB1 (by omega) _⟩
set_option maxHeartbeats 400000 in
theorem bare_calls (c : Int) (w : World) : Calls Tryd.prog 45 #[.int .i64 c] w fun e w' => e = .returned (.agg (faultC c false 0).toArray) ∧ Below w.heap.size w w' := by
  obtain ⟨fs, hfs⟩ := undF
  go_enter Tryd.func45, Tryd.ntmps45
  go_wp2_with (first
    | (refine alloc_blk rfl 59 rfl _ rfl (faultC 0 false 0) zeroF ?_; intro g1 w1 hg1 hb1 hB1 hs1)
    | (refine store_blk rfl 59 _ _ rfl g1 (faultC c false 0) rfl rfl 59 _ hb1 3 infoF rfl rfl (oneF _ _ _) ?_)
    | fail)
  refine bodyPost_ret (results_str1 rfl _ _ g1 59 _ fs rfl (hb1.setRow (faultC c false 0)) hfs infoF) rfl ?_
  exact ⟨rfl, below_setRow hB1 (by omega) _⟩
set_option maxHeartbeats 400000 in
theorem sameFault_calls (c d : Int) (w : World) : Calls Tryd.prog 56 #[.agg (faultC c false 0).toArray, .agg (faultC d false 0).toArray] w fun e w' => e = .returned (.bool (c == d)) ∧ Below w.heap.size w w' := by
  cases hcd : (c == d)
  all_goals
    go_enter Tryd.func56, Tryd.ntmps56
    go_wp2_with (first
      | (have hx := hb1; refine box_blk rfl 59 _ rfl _ rfl (faultC d false 0) rfl ?_; clear hx; intro g2 w2 hg2 hb2 hB2 hs2
         have c2 := hb2.cell 0; have d2 := hb2.cell 1; have e2 := hb2.cell 2
         have hb3 := hb1.belowAll hB2
         have c1 := hb3.cell 0; have d1 := hb3.cell 1; have e1 := hb3.cell 2
         simp only [faultC, List.getElem?_cons_zero, List.getElem?_cons_succ] at c1 d1 e1 c2 d2 e2
         have hB := below_then hB1 hB1.size hB2
         clear hg1 hg2 hs1 hs2)
      | (refine box_blk rfl 59 _ rfl _ rfl (faultC c false 0) rfl ?_; intro g1 w1 hg1 hb1 hB1 hs1)
      | fail)
    go_ret
    exact ⟨rfl, hB⟩
end Go.Proofs.YtlikinglgegclaaDoor
/- The numbers of api's errors. -/
namespace Go.Proofs.YtlikinglgegclaaDoor
open Go.RowKit Go.Cour
/-- All of them, in order. -/
def errL (P : Nat → Addr) : List Value := [errV (P 0), errV (P 1), errV (P 2), errV (P 3), errV (P 4), errV (P 5), errV (P 6), errV (P 7), errV (P 8), errV (P 9), errV (P 10), errV (P 11), errV (P 12), errV (P 13), errV (P 14), errV (P 15), errV (P 16), errV (P 17), errV (P 18)]
theorem errL_get (P : Nat → Addr) (i : Nat) (h : i < 19) : (errL P)[i]? = some (errV (P i)) := by
  have h1 : i = 0 ∨ i = 1 ∨ i = 2 ∨ i = 3 ∨ i = 4 ∨ i = 5 ∨ i = 6 ∨ i = 7 ∨ i = 8 ∨ i = 9 ∨ i = 10 ∨ i = 11 ∨ i = 12 ∨ i = 13 ∨ i = 14 ∨ i = 15 ∨ i = 16 ∨ i = 17 ∨ i = 18 := by omega
  rcases h1 with rfl | rfl | rfl | rfl | rfl | rfl | rfl | rfl | rfl | rfl | rfl | rfl | rfl | rfl | rfl | rfl | rfl | rfl | rfl <;> rfl
theorem errL_cells (P : Nat → Addr) : ∀ u ∈ errL P, u.cells = #[u] := by
  intro u hu
  obtain ⟨i, hi⟩ := List.getElem?_of_mem hu
  have hl : i < 19 := by
    have := (List.getElem?_eq_some_iff.1 hi).1
    simpa [errL] using this
  rw [errL_get P i hl] at hi
  injection hi with hi
  subst hi
  rfl
theorem undLErr : Tryd.prog.underlying 133 = some (.slice 36) := by kernel_rfl
theorem sizeErr : (Tryd.prog.info? 36).map (·.size) = some 1 := by kernel_rfl
theorem zeroErr : ((Tryd.prog.info? 36).bind (·.zero)).isSome = true := by kernel_rfl
/-- A slice literal of values of one cell each. -/
theorem literal_vals {P : Program} {ops : Array Oper} {rest : List Oper} {o : Oper} {a : Act} {w : World} {Q : Exit → Act → World → Prop} (hw : Region.wanted o (yielded ops a.tmps) = true) (t e : TypeId) (len : Nat) (parts : Array (Nat × Operand)) (ho : o.op = .buildSlice t len parts)
    (us : List Value) (hparts : (parts.map fun (i, x) => (i, a.eval x)).toList = (us.zipIdx 0).map fun x => (x.2, x.1)) (h1 : ∀ u ∈ us, u.cells = #[u])
    (ht : P.underlying t = some (.slice e)) (hsz : (P.info? e).map (·.size) = some 1) (hz : ((P.info? e).bind (·.zero)).isSome = true) (hlen : len = us.length) (hpos : 0 < len) (hsmall : len ≤ 2 ^ 24)
    (h : ∀ (g : Nat) (w' : World), w.heap.size = g → Blk w' g e us → Below w.heap.size w w' → w'.heap.size = g + 1 → wpList P ops Q rest (a.put o.dst (.slice (some ⟨g, 0, none⟩) len len)) w') :
    wpList P ops Q (o :: rest) a w := by
  have h2 := h w.heap.size _ rfl (Blk.new w e us) ((Below.refl _ _).alloc (Nat.le_refl _) _) (by simp)
  cases hie : P.info? e with
  | none => simp [hie] at hsz
  | some ie =>
    simp only [hie, Option.map_some, Option.some.injEq, Option.bind_some] at hsz hz
    obtain ⟨z, hzz⟩ := Option.isSome_iff_exists.1 hz
    refine wpList_step fun K hK => ?_
    rw [if_pos hw]
    refine wp_buildSlice t e len _ ho us.toArray ie z ht hie hzz (by rw [hsz]; omega) (by rw [hsz]; omega) ?_ (hK _ _ h2)
    rw [hparts, hsz]
    exact Great.fill_flat us _ h1 (by simp [hlen])
set_option maxHeartbeats 1000000 in
set_option maxRecDepth 100000 in
theorem sentinels_calls {w : World} {P : Nat → Addr} (h : Errs w P) :
    Calls Tryd.prog 77 #[] w fun e w' => ∃ g, e = .returned (.slice (some ⟨g, 0, none⟩) 19 19) ∧ w.heap.size ≤ g ∧ Blk w' g 36 (errL P) ∧ Below w.heap.size w w' := by
  have e0 := h.cell 0 (by omega)
  have e1 := h.cell 1 (by omega)
  have e2 := h.cell 2 (by omega)
  have e3 := h.cell 3 (by omega)
  have e4 := h.cell 4 (by omega)
  have e5 := h.cell 5 (by omega)
  have e6 := h.cell 6 (by omega)
  have e7 := h.cell 7 (by omega)
  have e8 := h.cell 8 (by omega)
  have e9 := h.cell 9 (by omega)
  have e10 := h.cell 10 (by omega)
  have e11 := h.cell 11 (by omega)
  have e12 := h.cell 12 (by omega)
  have e13 := h.cell 13 (by omega)
  have e14 := h.cell 14 (by omega)
  have e15 := h.cell 15 (by omega)
  have e16 := h.cell 16 (by omega)
  have e17 := h.cell 17 (by omega)
  have e18 := h.cell 18 (by omega)
  simp only [globs, List.getD_cons_zero, List.getD_cons_succ] at e0 e1 e2 e3 e4 e5 e6 e7 e8 e9 e10 e11 e12 e13 e14 e15 e16 e17 e18
  go_enter Tryd.func77, Tryd.ntmps77
  go_wp2_with (first
    | (refine literal_vals rfl 133 36 19 _ rfl (errL P) (by kernel_rfl) (errL_cells P) undLErr sizeErr zeroErr rfl (by omega) (by omega) ?_; intro g w1 hg hb hB hs)
    | fail)
  go_ret
  exact ⟨g, rfl, by omega, hb, hB⟩
set_option maxHeartbeats 1000000 in
set_option maxRecDepth 100000 in
theorem sentinel_calls {w : World} {P : Nat → Addr} (h : Errs w P) (k : Nat) (hk : k < 19) :
    Calls Tryd.prog 55 #[errV (P k)] w fun e w' => e = .returned (.int .i64 (101 + (k : Int))) ∧ Below w.heap.size w w' := by
  go_enter Tryd.func55, Tryd.ntmps55
  go_wp2_with (first
    | (go_at_call 77; refine (sentinels_calls h).mono ?_; rintro e w1 ⟨g, rfl, hg, hb, hB⟩)
    | fail)
  go_loopg [4] (k + 1) (fun kq v4 wr => ∃ i : Nat, i ≤ k ∧ v4 = .int .i64 i ∧ Hd (kq + i = k + 1) ∧ wr = w1)
  case atStart => exact ⟨0, by omega, rfl, hid (by omega), rfl⟩
  case round =>
    obtain ⟨i, hi, rfl, hq, rfl⟩ := hrel
    have hi19 : (i : Int) < 19 := by omega
    have hc : wr.cell? ⟨g, i, none⟩ = some (errV (P i)) := by rw [hb.cell, errL_get P i (by omega)]
    by_cases hik : k = i
    · subst hik
      have hd : decide (k = k) = true := decide_eq_true rfl
      have hd := hid hd
      go_wp2_with (first
        | (go_at_call 78; refine (alike_calls (h.below hB) k k hk hk).mono ?_; rintro e w2 ⟨he, hw2⟩; rw [hd.out] at he; subst he; subst w2)
        | fail)
      go_ret
      exact ⟨rfl, hB⟩
    · have hd := hid (decide_eq_false hik)
      have hik2 := hid hik
      clear hik
      go_wp2_with (first
        | (go_at_call 78; refine (alike_calls (h.below hB) k i hk (by omega)).mono ?_; rintro e w2 ⟨he, hw2⟩; rw [hd.out] at he; subst he; subst w2)
        | fail)
      go_roundg (gk - 1)
      case measure => have := hq.out; omega
      case rel => exact ⟨i + 1, by have := hik2.out; omega, by go_num, hid (by have := hq.out; omega), rfl⟩
end Go.Proofs.YtlikinglgegclaaDoor
/- Errors as faults. -/
namespace Go.Proofs.YtlikinglgegclaaDoor
open Go.RowKit Go.Cour
theorem assert_err (a : Addr) (w : World) : (Instr.typeAssert (errV a) 36 107 true).run Tryd.prog w = .ok (.tuple #[.pointer none, .bool false]) w := by kernel_rfl
set_option maxHeartbeats 400000 in
set_option maxRecDepth 100000 in
theorem fault_nil_calls (w : World) : Calls Tryd.prog 24 #[.nilIface] w fun e w' => e = .returned (.agg (faultC 0 false 0).toArray) ∧ Below w.heap.size w w' := by
  obtain ⟨fs, hfs⟩ := undF
  have h2 := nil_nil
  go_enter Tryd.func24, Tryd.ntmps24
  go_wp2_with (first
    | (refine alloc_blk rfl 59 rfl _ rfl (faultC 0 false 0) zeroF ?_; intro g1 w1 hg1 hb1 hB1 hs1; clear hs1)
    | (go_at_call 54; refine (none_calls _).mono ?_; rintro e w2 ⟨rfl, hB2⟩; have hb2 := hb1.belowAll hB2)
    | (refine store_blk rfl 59 _ _ rfl g1 (faultC 0 false 0) rfl rfl 59 _ hb2 3 infoF rfl rfl (oneF _ _ _) ?_)
    | fail)
  refine bodyPost_ret (results_str1 rfl _ _ g1 59 _ fs rfl (hb2.setRow (faultC 0 false 0)) hfs infoF) rfl ?_
  exact ⟨rfl, below_setRow (below_then hB1 hB1.size hB2) (by omega) _⟩
set_option maxHeartbeats 400000 in
set_option maxRecDepth 100000 in
theorem fault_calls {w : World} {P : Nat → Addr} (h : Errs w P) (k : Nat) (hk : k < 19) : Calls Tryd.prog 24 #[errV (P k)] w fun e w' => e = .returned (.agg (faultC (101 + (k : Int)) false 0).toArray) ∧ Below w.heap.size w w' := by
  obtain ⟨fs, hfs⟩ := undF
  have h2 := err_nil_right (P k)
  have h4 := fun op t x y v => eqGuard_err op t x y (P k) v
  have h5 := assert_err (P k)
  obtain ⟨c, hc⟩ : ∃ c : Int, Hd (101 + (k : Int) = c) := ⟨_, ⟨rfl⟩⟩
  rw [hc.out]
  go_enter Tryd.func24, Tryd.ntmps24
  go_wp2_with (first
    | (refine alloc_blk rfl 59 rfl _ rfl (faultC 0 false 0) zeroF ?_; intro g1 w1 hg1 hb1 hB1 hs1; clear hs1)
    | (go_at_call 55; refine (sentinel_calls (h.below hB1) k hk).mono ?_; rintro e w2 ⟨rfl, hB2⟩; rw [hc.out]; have hb2 := hb1.belowAll hB2)
    | (go_at_call 45; refine (bare_calls _ _).mono ?_; rintro e w3 ⟨rfl, hB3⟩; have hb3 := hb2.belowAll hB3)
    | (refine store_blk rfl 59 _ _ rfl g1 (faultC c false 0) rfl rfl 59 _ hb3 3 infoF rfl rfl (oneF _ _ _) ?_)
    | fail)
  refine bodyPost_ret (results_str1 rfl _ _ g1 59 _ fs rfl (hb3.setRow (faultC c false 0)) hfs infoF) rfl ?_
  exact ⟨rfl, below_setRow (below_then (below_then hB1 hB1.size hB2) (by have := hB1.size; have := hB2.size; omega) hB3) (by omega) _⟩
end Go.Proofs.YtlikinglgegclaaDoor
/- Is: an error, held against a number. -/
namespace Go.Proofs.YtlikinglgegclaaDoor
open Go.RowKit Go.Cour
set_option maxHeartbeats 400000 in
set_option maxRecDepth 100000 in
theorem same_nil_calls (c : Int) (w : World) : Calls Tryd.prog 25 #[.nilIface, .agg (faultC c false 0).toArray] w fun e w' => e = .returned (.bool ((0 : Int) == c)) ∧ Below w.heap.size w w' := by
  obtain ⟨fs, hfs⟩ := undF
  go_enter Tryd.func25, Tryd.ntmps25
  go_wp2_with (first
    | (refine box_blk rfl 59 _ rfl _ rfl (faultC c false 0) rfl ?_; intro g4 w1 hg4 hb4 hB1 hs1; clear hg4 hs1)
    | fail)
  refine wp_region_facts (ix := [[0], [1], [2], [3], [4]]) (S := fun w' => Blk w' g4 59 (faultC c false 0) ∧ Below w.heap.size w w')
    (R := fun w1 w2 => Below w1.heap.size w1 w2)
    (p := fun jO vs w' => match jO with
      | 0 => vs 0 = .nilIface
      | 1 => vs 1 = .agg (faultC ((0 : Int)) false 0).toArray
      | 2 => vs 2 = .agg (faultC c false 0).toArray
      | 3 => vs 3 = .bool ((0 : Int) == c)
      | 4 => vs 4 = .bool ((0 : Int) == c)
      | _ => True)
    (by kernel_rfl) (by kernel_rfl) ?_ ?_ ?_ ?_
  · exact ⟨hb4.drew, below_drewN hB1 1⟩
  · intro jO vs w1 w2 hR h
    match jO with
    | 0 | 1 | 2 | 3 | 4 => exact h
    | nO + 5 => trivial
  · refine ⟨?_, ?_, ?_, ?_, ?_, trivial⟩
    · (intro vs w2 hS hd; simp [Region.binds, Fact.at] at hd; simp only [fill, List.take_succ_cons, List.take_zero, Act.put, List.setIfInBounds_toArray, List.set_cons_zero, List.set_cons_succ, Nat.reduceAdd])
      try simp only [hd]
      go_wp2_with fail
      exact ⟨rfl, rfl, hS, Below.refl _ _⟩
    · (intro vs w2 hS hd; simp [Region.binds, Fact.at] at hd; simp only [fill, List.take_succ_cons, List.take_zero, Act.put, List.setIfInBounds_toArray, List.set_cons_zero, List.set_cons_succ, Nat.reduceAdd])
      simp only [hd]
      go_wp2_with (first
        | (go_at_call 24; refine (fault_nil_calls _).mono ?_; rintro e w3 ⟨rfl, hB⟩)
        | fail)
      exact ⟨rfl, rfl, ⟨hS.1.belowAll hB, below_then hS.2 hS.2.size hB⟩, hB⟩
    · (intro vs w2 hS hd; simp [Region.binds, Fact.at] at hd; simp only [fill, List.take_succ_cons, List.take_zero, Act.put, List.setIfInBounds_toArray, List.set_cons_zero, List.set_cons_succ, Nat.reduceAdd])
      try simp only [hd]
      go_wp2_with (first
        | (refine load_str rfl 59 _ rfl g4 rfl 59 _ hS.1 fs hfs infoF ?_)
        | fail)
      exact ⟨rfl, rfl, hS, Below.refl _ _⟩
    · (intro vs w2 hS hd; simp [Region.binds, Fact.at] at hd; simp only [fill, List.take_succ_cons, List.take_zero, Act.put, List.setIfInBounds_toArray, List.set_cons_zero, List.set_cons_succ, Nat.reduceAdd])
      simp only [hd]
      go_wp2_with (first
        | (go_at_call 56; refine (sameFault_calls ((0 : Int)) c _).mono ?_; rintro e w3 ⟨rfl, hB⟩)
        | fail)
      exact ⟨rfl, rfl, ⟨hS.1.belowAll hB, below_then hS.2 hS.2.size hB⟩, hB⟩
    · (intro vs w2 hS hd; simp [Region.binds, Fact.at] at hd; simp only [fill, List.take_succ_cons, List.take_zero, Act.put, List.setIfInBounds_toArray, List.set_cons_zero, List.set_cons_succ, Nat.reduceAdd])
      simp only [hd]
      go_wp2_with fail
      exact ⟨rfl, rfl, hS, Below.refl _ _⟩
  · intro vs wq hf hS
    have h4 : vs 4 = .bool ((0 : Int) == c) := hf 4 (by simp)
    simp only [fill, Act.put, List.setIfInBounds_toArray, List.set_cons_zero, List.set_cons_succ, Nat.reduceAdd]
    clear hf
    go_wp2_with fail
    go_ret
    exact ⟨congrArg Ending.returned h4, hS.2⟩
set_option maxHeartbeats 400000 in
set_option maxRecDepth 100000 in
theorem same_err_calls (c : Int) {w : World} {P : Nat → Addr} (h : Errs w P) (k : Nat) (hk : k < 19) : Calls Tryd.prog 25 #[errV (P k), .agg (faultC c false 0).toArray] w fun e w' => e = .returned (.bool (101 + (k : Int) == c)) ∧ Below w.heap.size w w' := by
  obtain ⟨fs, hfs⟩ := undF
  go_enter Tryd.func25, Tryd.ntmps25
  go_wp2_with (first
    | (refine box_blk rfl 59 _ rfl _ rfl (faultC c false 0) rfl ?_; intro g4 w1 hg4 hb4 hB1 hs1; clear hg4 hs1)
    | fail)
  refine wp_region_facts (ix := [[0], [1], [2], [3], [4]]) (S := fun w' => Blk w' g4 59 (faultC c false 0) ∧ Below w.heap.size w w')
    (R := fun w1 w2 => Below w1.heap.size w1 w2)
    (p := fun jO vs w' => match jO with
      | 0 => vs 0 = errV (P k)
      | 1 => vs 1 = .agg (faultC (101 + (k : Int)) false 0).toArray
      | 2 => vs 2 = .agg (faultC c false 0).toArray
      | 3 => vs 3 = .bool (101 + (k : Int) == c)
      | 4 => vs 4 = .bool (101 + (k : Int) == c)
      | _ => True)
    (by kernel_rfl) (by kernel_rfl) ?_ ?_ ?_ ?_
  · exact ⟨hb4.drew, below_drewN hB1 1⟩
  · intro jO vs w1 w2 hR h
    match jO with
    | 0 | 1 | 2 | 3 | 4 => exact h
    | nO + 5 => trivial
  · refine ⟨?_, ?_, ?_, ?_, ?_, trivial⟩
    · (intro vs w2 hS hd; simp [Region.binds, Fact.at] at hd; simp only [fill, List.take_succ_cons, List.take_zero, Act.put, List.setIfInBounds_toArray, List.set_cons_zero, List.set_cons_succ, Nat.reduceAdd])
      try simp only [hd]
      go_wp2_with fail
      exact ⟨rfl, rfl, hS, Below.refl _ _⟩
    · (intro vs w2 hS hd; simp [Region.binds, Fact.at] at hd; simp only [fill, List.take_succ_cons, List.take_zero, Act.put, List.setIfInBounds_toArray, List.set_cons_zero, List.set_cons_succ, Nat.reduceAdd])
      simp only [hd]
      go_wp2_with (first
        | (go_at_call 24; refine (fault_calls (h.below hS.2) k hk).mono ?_; rintro e w3 ⟨rfl, hB⟩)
        | fail)
      exact ⟨rfl, rfl, ⟨hS.1.belowAll hB, below_then hS.2 hS.2.size hB⟩, hB⟩
    · (intro vs w2 hS hd; simp [Region.binds, Fact.at] at hd; simp only [fill, List.take_succ_cons, List.take_zero, Act.put, List.setIfInBounds_toArray, List.set_cons_zero, List.set_cons_succ, Nat.reduceAdd])
      try simp only [hd]
      go_wp2_with (first
        | (refine load_str rfl 59 _ rfl g4 rfl 59 _ hS.1 fs hfs infoF ?_)
        | fail)
      exact ⟨rfl, rfl, hS, Below.refl _ _⟩
    · (intro vs w2 hS hd; simp [Region.binds, Fact.at] at hd; simp only [fill, List.take_succ_cons, List.take_zero, Act.put, List.setIfInBounds_toArray, List.set_cons_zero, List.set_cons_succ, Nat.reduceAdd])
      simp only [hd]
      go_wp2_with (first
        | (go_at_call 56; refine (sameFault_calls (101 + (k : Int)) c _).mono ?_; rintro e w3 ⟨rfl, hB⟩)
        | fail)
      exact ⟨rfl, rfl, ⟨hS.1.belowAll hB, below_then hS.2 hS.2.size hB⟩, hB⟩
    · (intro vs w2 hS hd; simp [Region.binds, Fact.at] at hd; simp only [fill, List.take_succ_cons, List.take_zero, Act.put, List.setIfInBounds_toArray, List.set_cons_zero, List.set_cons_succ, Nat.reduceAdd])
      simp only [hd]
      go_wp2_with fail
      exact ⟨rfl, rfl, hS, Below.refl _ _⟩
  · intro vs wq hf hS
    have h4 : vs 4 = .bool (101 + (k : Int) == c) := hf 4 (by simp)
    simp only [fill, Act.put, List.setIfInBounds_toArray, List.set_cons_zero, List.set_cons_succ, Nat.reduceAdd]
    clear hf
    go_wp2_with fail
    go_ret
    exact ⟨congrArg Ending.returned h4, hS.2⟩
set_option maxHeartbeats 400000 in
theorem is_nil_calls (c : Int) (w : World) : Calls Tryd.prog 19 #[.nilIface, .int .i64 c] w fun e w' => e = .returned (.bool ((0 : Int) == c)) ∧ Below w.heap.size w w' := by
  go_enter Tryd.func19, Tryd.ntmps19
  go_wp2_with (first
    | (go_at_call 45; refine (bare_calls _ _).mono ?_; rintro e w1 ⟨rfl, hB1⟩)
    | (go_at_call 25; refine (same_nil_calls c _).mono ?_; rintro e w2 ⟨rfl, hB2⟩)
    | fail)
  go_ret
  exact ⟨rfl, below_then hB1 hB1.size hB2⟩
set_option maxHeartbeats 400000 in
theorem is_err_calls (c : Int) {w : World} {P : Nat → Addr} (h : Errs w P) (k : Nat) (hk : k < 19) : Calls Tryd.prog 19 #[errV (P k), .int .i64 c] w fun e w' => e = .returned (.bool (101 + (k : Int) == c)) ∧ Below w.heap.size w w' := by
  go_enter Tryd.func19, Tryd.ntmps19
  go_wp2_with (first
    | (go_at_call 45; refine (bare_calls _ _).mono ?_; rintro e w1 ⟨rfl, hB1⟩)
    | (go_at_call 25; refine (same_err_calls c (h.below hB1) k hk).mono ?_; rintro e w2 ⟨rfl, hB2⟩)
    | fail)
  go_ret
  exact ⟨rfl, below_then hB1 hB1.size hB2⟩
end Go.Proofs.YtlikinglgegclaaDoor
/- Chapter 19's examples. -/
namespace Go.Proofs.YtlikinglgegclaaDoor
open Go.RowKit Go.Cour
theorem nil_neqD (w : World) : (binOp .neq 36 .nilIface .nilIface).run Tryd.prog w = .ok (.bool false) w := by
  obtain ⟨ms, hms⟩ := undErr
  have h : ∀ d : Nat, (Op.equalIn (d + 1) 36 .nilIface .nilIface).run Tryd.prog w = .ok true w := fun d => by simp [Op.equalIn, run_underlying hms]
  simp only [binOp]
  simp [Op.equal, Op.maxDepth, h 9999]
theorem err_neqD (a : Addr) (w : World) : (binOp .neq 36 (errV a) .nilIface).run Tryd.prog w = .ok (.bool true) w := by
  obtain ⟨ms, hms⟩ := undErr
  have h : ∀ d : Nat, (Op.equalIn (d + 1) 36 (errV a) .nilIface).run Tryd.prog w = .ok false w := fun d => by simp [Op.equalIn, run_underlying hms, errV]
  simp only [binOp]
  simp [Op.equal, Op.maxDepth, h 9999]
def dzq (q : Int) : List Value := descC 0 0 q (List.replicate 32 0) (List.replicate 32 0) (List.replicate 32 0)
theorem builtDq (q : Int) : Tryd.prog.built 32 [(2, .int .u32 q)] = some (dzq q).toArray := by kernel_rfl
theorem builtK0 : Tryd.prog.built 27 [] = some (ints .u8 (List.replicate 32 0)).toArray := by kernel_rfl
set_option maxHeartbeats 2000000 in
set_option maxRecDepth 100000 in
theorem first19_calls {w : World} {P : Nat → Addr} (hE : Errs w P) : Calls Tryd.prog 6 #[] w fun e w' => e = .returned (.bool true) ∧ Below w.heap.size w w' := by
  have hS := HS.start NoF w
  have hnil := nil_nil
  have hen := fun w => err_neqD (P 1) w
  have heg := fun op t x y v => eqGuard_err op t x y (P 1) v
  have HE := hid hE
  clear hE
  obtain ⟨Z, hZ⟩ : ∃ Z : List Int, Hd (List.replicate 32 0 = Z) := ⟨_, hid rfl⟩
  have HZL : Hd (Z.length = 32) := hid (by rw [← hZ.out]; simp)
  have RZ : Hd (bytesOk Z) := hid (by
    rw [← hZ.out]
    intro i
    unfold rd
    rw [List.getD_eq_getElem?_getD, List.getElem?_replicate]
    split <;> simp)
  have HBK : Hd (Tryd.prog.built 27 [] = some (ints .u8 Z).toArray) := hid (by rw [← hZ.out]; exact builtK0)
  have hN : countI (0 : Nat) 5 = (1 : Nat) := by decide
  have HRL : Hd ((rootOf (hashesOf (allTexts Z [] 5))).length = 32) := hid (rootF_H32 _ _ (hashesOf_H32 _)).1
  have HSL : Hd ((shaOf (blobOf (allTexts Z [] 5))).length = 32) := hid (shaOf_length _)
  have HBL : Hd ((blobOf (allTexts Z [] 5)).length = 48) := hid (by rw [show (5 : Int) = ((5 : Nat) : Int) from rfl, blob_len Z [] 5 1 (by omega) hN]; rfl)
  have HMK := hid fun w => makeP_calls Z [] 1 5 none 0 0 w HZL.out RZ.out (fun i => by simp [rd]) rfl (fun _ => rfl) (Nat.le_refl _) (.inl rfl) (by omega) (by omega) (by omega)
  obtain ⟨bs, hbs⟩ : ∃ bs, Hd (blobOf (allTexts Z [] 5) = bs) := ⟨_, hid rfl⟩
  obtain ⟨RT, hRT⟩ : ∃ RT, Hd (rootOf (hashesOf (allTexts Z [] 5)) = RT) := ⟨_, hid rfl⟩
  obtain ⟨SH, hSH⟩ : ∃ SH, Hd (shaOf bs = SH) := ⟨_, hid rfl⟩
  rw [hbs.out, hSH.out] at HSL
  rw [hRT.out] at HRL
  rw [hbs.out] at HBL
  rw [hRT.out, hbs.out, hSH.out] at HMK
  have HDL : Hd ((descC 1 (0 : Nat) 5 Z RT SH).length = 99) := hid (descC_length HZL.out HRL.out HSL.out)
  have HD1 := hid (descC_one 1 (0 : Nat) 5 Z RT SH)
  have HD01 : Hd ((descC 1 (0 : Nat) 5 Z RT SH)[1]? = some (.int .u32 ((0 : Nat) : Int))) := hid rfl
  have HD02 : Hd ((descC 1 (0 : Nat) 5 Z RT SH)[2]? = some (.int .u32 ((5 : Nat) : Int))) := hid rfl
  obtain ⟨D, hD⟩ : ∃ D, D = descC 1 (0 : Nat) 5 Z RT SH := ⟨_, rfl⟩
  rw [← hD] at HDL HD1 HD01 HD02
  simp only [← hD] at HMK
  clear hD
  have HN := hid hN
  clear hN
  have HZ1 := hid zeroD_length
  have HT := hid fun w => dtotal_calls D 0 5 1 w HDL.out HD01.out HD02.out (by omega) (by omega) HN.out (by omega)
  have HB1 := hid (builtDq 1)
  have HB0 := hid builtD0
  have HC1 := hid fun w => dcheck_ok (dzq 1) 0 1 w rfl rfl (by omega) (by omega)
  have HC0 := hid fun (w : World) (hE : Errs w P) => dcheck_bad zeroD 0 0 hE rfl rfl (by omega)
  generalize dzq 1 = D1 at *
  have HZD := hid zeroDesc
  generalize zeroD = D0 at *
  go_enter Tryd.func6, Tryd.ntmps6
  go_wp2_with (first
    | (refine build_to rfl 27 _ rfl (ints .u8 Z).toArray (by rw [Array.toList_map]; exact HBK.out) ?_)
    | (go_at_call 10; refine (HMK.out _).mono ?_; rintro e w5 ⟨v5, rfl, hox, hown, hB⟩; obtain ⟨A5, c5, h5, hc5, _⟩ := hox.parts; rw [ints_length, HBL.out] at h5 hc5; subst h5; replace hS := hS.below hB; clear hox hown hB)
    | (refine alloc_blk rfl 32 rfl _ rfl D0 HZD.out ?_; intro g11 w11 hga hba hBa hsa; replace hS : HS NoF w w11 [.blk g11 32 D0] := hS.pushBlk hBa hba hga; clear hga hba hBa hsa)
    | (refine hs_storeW hS 0 rfl rfl 32 _ _ rfl rfl D rfl HD1.out 99 sizeDesc HDL.out HZ1.out _ rfl ?_; clear hS; intro w6 hS; replace hS : HS NoF w w6 [.blk g11 32 D] := hS)
    | (refine hs_loadW hS 0 rfl rfl 32 _ rfl rfl 99 sizeDesc HDL.out _ undDesc.choose_spec rfl _ rfl ?_)
    | (go_at_call 12; refine (HT.out _).mono ?_; rintro e w7 ⟨rfl, hB⟩; rw [show ((1 : Nat) : Int) * 48 + ((0 : Nat) : Int) = 48 from rfl]; replace hS := hS.below hB; clear hB)
    | (refine build_to rfl 32 _ rfl D1.toArray (by rw [Array.toList_map]; exact HB1.out) ?_)
    | (refine build_to rfl 32 _ rfl D0.toArray (by rw [Array.toList_map]; exact HB0.out) ?_)
    | fail)
  refine (HC1.out _).mono ?_
  rintro e w8 ⟨rfl, hB⟩
  replace hS := hS.below hB
  clear hB
  go_wp2_with (first
    | (refine build_to rfl 32 _ rfl D0.toArray (by rw [Array.toList_map]; exact HB0.out) ?_)
    | fail)
  refine (HC0.out _ (HE.out.below hS.bel)).mono ?_
  rintro e w9 ⟨rfl, hB⟩
  replace hS := hS.below hB
  clear hB
  go_wp2_with fail
  go_ret
  exact ⟨rfl, hS.bel⟩
end Go.Proofs.YtlikinglgegclaaDoor
/- What opening gives. -/
namespace Go.Proofs.YtlikinglgegclaaDoor
open Go.RowKit Go.Cour
/-- The first result of opening. -/
def OpV (w' : World) (base : Nat) (r : List Int ⊕ Nat) (v : Value) : Prop := match r with
  | .inl xs => Own w' base 5 .u8 v xs
  | .inr _ => v = .slice none 0 0
theorem OpV.below {w w' : World} {base : Nat} {r : List Int ⊕ Nat} {v : Value} (h : OpV w base r v) (hb : Below w.heap.size w w') : OpV w' base r v := by
  cases r with
  | inl xs => exact Own.below h hb
  | inr k => exact h
theorem OpV.lower {w : World} {b base : Nat} {r : List Int ⊕ Nat} {v : Value} (h : OpV w base r v) (hb : b ≤ base) : OpV w b r v := by
  cases r with
  | inl xs => exact Own.lower h hb
  | inr k => exact h
end Go.Proofs.YtlikinglgegclaaDoor
/- The reference's Open. -/
namespace Go.Proofs.YtlikinglgegclaaDoor
open Go.RowKit Go.Cour
/-- Two results of the reference: bytes, a number. -/
def Opened1 (w' : World) (base : Nat) (r : List Int ⊕ Nat) (v : Value) (k : Int) : Prop := match r with
  | .inl xs => k = 0 ∧ Own w' base 5 .u8 v xs
  | .inr j => k = 101 + (j : Int) ∧ v = .slice none 0 0
set_option maxHeartbeats 2000000 in
set_option maxRecDepth 100000 in
theorem open1_calls (key nonce ad b : List Int) (A A' : Option Addr) (c c' n n' : Nat) (w : World) (hk : key.length = 32) (hnl : nonce.length = 12) (rk : bytesOk key) (rn : bytesOk nonce)
    (hn : n = ad.length) (hr : Rd w A .u8 ad) (ra : bytesOk ad) (hn' : n' = b.length) (hc' : n' ≤ c') (hr' : Rd w A' .u8 b) (rb : bytesOk b) (hla : ad.length ≤ 100000) (hlb : b.length ≤ 100000) :
    Calls Tryd.prog 41 #[.agg (ints .u8 key).toArray, .agg (ints .u8 nonce).toArray, .slice A n c, .slice A' n' c'] w fun e w' => ∃ v k, e = .returned (.tuple #[v, .int .i64 k]) ∧ Opened1 w' w.heap.size (openOf key nonce ad b) v k ∧ Below w.heap.size w w' := by
  have HK := hid hk
  have HNL := hid hnl
  have HN := hid hn
  have HR := hid hr
  have HN' := hid hn'
  have HR' := hid hr'
  have hlb' : n' ≤ 100000 := by omega
  clear hk hnl hn hr hn' hr'
  by_cases hs : n' < 16
  · have hop : Hd (openOf key nonce ad b = .inr 2) := hid (by rw [openOf, if_pos (by rw [← HN'.out]; exact hs)])
    rw [hop.out]
    have hs1 : (n' : Int) < 16 := by omega
    go_enter Tryd.func41, Tryd.ntmps41
    go_wp2_with (first
      | (refine box_blk rfl 27 _ rfl _ rfl (ints .u8 key) rfl ?_; intro g4 w1 hg4 hb4 hB1 hs1)
      | (refine box_blk rfl 91 _ rfl _ rfl (ints .u8 nonce) rfl ?_; intro g5 w2 hg5 hb5 hB2 hs2
         have hB := below_then hB1 hB1.size hB2
         clear hg4 hg5 hs1 hs2)
      | fail)
    refine bodyPost_ret (Go.Cour.results_tmp2 rfl _ _ rfl rfl) rfl ?_
    exact ⟨_, _, rfl, ⟨rfl, rfl⟩, hB⟩
  · obtain ⟨k, hk16⟩ : ∃ k : Nat, n' = k + 16 := ⟨n' - 16, by omega⟩
    have hk16' : Hd (n' = k + 16) := hid hk16
    have hs1 : ¬ (n' : Int) < 16 := by omega
    obtain ⟨g, o, hA'⟩ := HR'.out.at (by rw [← HN'.out]; omega)
    subst hA'
    obtain ⟨cs, hcs⟩ : ∃ cs, Hd (b.take k = cs) := ⟨_, ⟨rfl⟩⟩
    obtain ⟨ls, hls⟩ : ∃ ls, Hd (b.drop k = ls) := ⟨_, ⟨rfl⟩⟩
    have hcl : Hd (k = cs.length) := hid (by rw [← hcs.out, List.length_take, ← HN'.out]; omega)
    have hll : Hd (16 = ls.length) := hid (by rw [← hls.out, List.length_drop, ← HN'.out]; omega)
    have hrc : Hd (Rd w (some ⟨g, o, none⟩) .u8 cs) := hid (by rw [← hcs.out]; exact HR'.out.take k)
    have hrl : Hd (Rd w (some ⟨g, o + k, none⟩) .u8 ls) := hid (by
      have := rd_slice HR'.out k
      rw [Option.map_some, add_lit, hls.out] at this
      exact this)
    have rcs : bytesOk cs := by rw [← hcs.out]; exact bytesOk_take rb k
    have w1f : (n' : Int) - 16 = (k : Int) := by omega
    have hck : ¬ c' = k := by omega
    have hop : Hd (openOf key nonce ad b = if tagOf key nonce ad cs = ls then .inl (xorStream key 1 nonce cs) else .inr 8) := hid (by
      rw [openOf, if_neg (by rw [← HN'.out]; omega)]
      have e : b.length - 16 = k := by rw [← HN'.out]; omega
      rw [e, hcs.out, hls.out])
    have hkn : (k : Int) ≤ (n' : Int) := by omega
    clear hk16
    have e16 : n' - k = 16 := by have := hk16'.out; omega
    obtain ⟨T, hT⟩ : ∃ T, Hd (tagOf key nonce ad cs = T) := ⟨_, ⟨rfl⟩⟩
    have htl : Hd (T.length = 16) := hid (by rw [← hT.out]; exact tagOf_length key nonce ad cs)
    rw [hT.out] at hop
    go_enter Tryd.func41, Tryd.ntmps41
    go_wp2_with (first
      | (refine box_blk rfl 27 _ rfl _ rfl (ints .u8 key) rfl ?_; intro g4 w1 hg4 hb4 hB1 hs1)
      | (refine box_blk rfl 91 _ rfl _ rfl (ints .u8 nonce) rfl ?_; intro g5 w2 hg5 hb5 hB2 hs2
         have hB := below_then hB1 hB1.size hB2
         replace hb4 := hb4.belowAll hB2
         clear hg4 hg5 hs1 hs2 hB1 hB2)
      | (refine load_blk rfl 27 _ rfl g4 rfl 27 _ hb4 32 5 arr23 (by simpa using HK.out) info23 ?_)
      | (refine load_blk rfl 91 _ rfl g5 rfl 91 _ hb5 12 5 arr24 (by simpa using HNL.out) info24 ?_)
      | (go_at_call 70; refine (tagged1_calls key nonce ad cs A (some ⟨g, o, none⟩) c c' n k w2 HK.out HNL.out rk rn HN.out (HR.out.below hB) ra hcl.out (by intro h; cases h) (hrc.out.below hB) rcs hla (by rw [← hcl.out]; omega)).mono ?_
         rintro e w4 ⟨he4, hB4⟩; rw [hT.out] at he4; subst he4
         replace hb4 := hb4.belowAll hB4
         replace hb5 := hb5.belowAll hB4)
      | (refine alloc_blk rfl 125 rfl _ rfl (ints .u8 (List.replicate 16 0)) zeroT16 ?_; intro g11 w5 hg11 hb11 hB5 hs5)
      | (refine store_blk rfl 125 _ _ rfl g11 (ints .u8 T) rfl rfl 125 _ hb11 16 infoT16 (by simpa using htl.out) (by simp) (ints_one _ _) ?_
         replace hb11 := hb11.setRow (ints .u8 T)
         have hBc : Below w4.heap.size w4 (w5.setRow g11 (ints .u8 T).toArray) := below_setRow hB5 (by omega) _
         replace hb4 := hb4.belowAll hBc
         replace hb5 := hb5.belowAll hBc
         have hBd : Below w.heap.size w (w5.setRow g11 (ints .u8 T).toArray) := below_then hB hB.size (below_then hB4 hB4.size hBc)
         clear hB4 hB5 hg11 hs5 hBc
         generalize w5.setRow g11 (ints .u8 T).toArray = w6 at *)
      | fail)
    have a1 : IntKind.i64.wrap (k : Int) = (k : Int) := IntWalk.i64_in _ (by omega)
    have hrT := Rd.ofBlk hb11
    have hrL := hrl.out.below hBd
    go_quiet ((go_at_call 16; exact Calls.quiet_of (same_calls T ls (some ⟨g11, 0, none⟩) (some ⟨g, o + k, none⟩) _ _ 16 _ _ htl.out.symm (by first | exact hll.out | (rw [← hll.out]; omega)) (hrT.drewN _) (hrL.drewN _) (by rw [htl.out]; omega) (by rw [← hll.out]; omega))))
    by_cases hte : T = ls
    · have hdt := decide_eq_true hte
      have hop2 : Hd (openOf key nonce ad b = .inl (xorStream key 1 nonce cs)) := hid (by rw [hop.out, if_pos hte])
      have hdt := hid hdt
      clear hop
      rw [hdt.out]
      generalize hW : w6.drewN _ = w7
      have hB8 : Below w.heap.size w w7 := by rw [← hW]; exact below_drewN hBd _
      replace hb4 : Blk w7 g4 27 (ints .u8 key) := by rw [← hW]; exact hb4.drewN _
      replace hb5 : Blk w7 g5 91 (ints .u8 nonce) := by rw [← hW]; exact hb5.drewN _
      clear hW hB hBd hb11 hrT hrL hte
      go_wp2_with (first
        | (refine load_blk rfl 27 _ rfl g4 rfl 27 _ hb4 32 5 arr23 (by simpa using HK.out) info23 ?_)
        | (refine load_blk rfl 91 _ rfl g5 rfl 91 _ hb5 12 5 arr24 (by simpa using HNL.out) info24 ?_)
        | (go_at_call 71; refine (xor1_calls key nonce cs 1 (some ⟨g, o, none⟩) k c' w7 hcl.out HK.out HNL.out rk rn (by omega) (hrc.out.below hB8) (by rw [← hcl.out]; omega)).mono ?_
           rintro e w8 ⟨v, rfl, ho, hB9⟩)
        | fail)
      refine bodyPost_ret (Go.Cour.results_tmp2 rfl _ _ rfl rfl) rfl ?_
      refine ⟨_, _, rfl, ?_, below_then hB8 hB8.size hB9⟩
      rw [hop2.out]
      exact ⟨rfl, ho.lower hB8.size⟩
    · have hdf := hid (decide_eq_false hte)
      have hop2 : Hd (openOf key nonce ad b = .inr 8) := hid (by rw [hop.out, if_neg hte])
      clear hop
      rw [hdf.out]
      clear hte
      go_wp2_with fail
      refine bodyPost_ret (Go.Cour.results_tmp2 rfl _ _ rfl rfl) rfl ?_
      refine ⟨_, _, rfl, ?_, below_drewN hBd _⟩
      rw [hop2.out]
      exact ⟨rfl, rfl⟩
end Go.Proofs.YtlikinglgegclaaDoor
/- courierref16's Open. -/
namespace Go.Proofs.YtlikinglgegclaaDoor
open Go.RowKit Go.Cour
attribute [local go_sem] max2_int min2_int
/-- The number of what opening tells. -/
def codeR : List Int ⊕ Nat → Int
  | .inl _ => 0
  | .inr j => 101 + (j : Int)
theorem Opened1.v {w' : World} {base : Nat} {r : List Int ⊕ Nat} {v : Value} {k : Int} (h : Opened1 w' base r v k) : OpV w' base r v := by cases r <;> exact h.2
theorem Opened1.n {w' : World} {base : Nat} {r : List Int ⊕ Nat} {v : Value} {k : Int} (h : Opened1 w' base r v k) : k = codeR r := by cases r <;> exact h.1
theorem opened1 {w' : World} {base : Nat} {r : List Int ⊕ Nat} {v : Value} (h : OpV w' base r v) : Opened1 w' base r v (codeR r) := by cases r <;> exact ⟨rfl, h⟩
set_option maxHeartbeats 400000 in
set_option maxRecDepth 100000 in
theorem sopen16_calls (key : List Int) (i : Int) (last : Bool) (b : List Int) (A : Option Addr) (n c : Nat) (w : World) (hk : key.length = 32) (rk : bytesOk key) (hi : 0 ≤ i ∧ i < 4294967296)
    (hn : n = b.length) (hc : n ≤ c) (hr : Rd w A .u8 b) (rb : bytesOk b) (hlb : b.length ≤ 100000) :
    Calls Tryd.prog 17 #[.agg (ints .u8 key).toArray, .int .u32 i, .bool last, .slice A n c] w fun e w' => ∃ v, e = .returned (.tuple #[v, .int .i64 (codeR (openOf key (nonceOf i last) [] b))]) ∧ Opened1 w' w.heap.size (openOf key (nonceOf i last) [] b) v (codeR (openOf key (nonceOf i last) [] b)) ∧ Below w.heap.size w w' := by
  obtain ⟨r, hr0⟩ : ∃ r, Hd (openOf key (nonceOf i last) [] b = r) := ⟨_, ⟨rfl⟩⟩
  rw [hr0.out]
  have HN := hid hn
  clear hn
  go_enter Tryd.func17, Tryd.ntmps17
  go_wp2_with (first
    | (refine box_blk rfl 27 _ rfl _ rfl (ints .u8 key) rfl ?_; intro g4 w1 hg4 hb4 hB1 hs1; clear hg4 hs1)
    | fail)
  refine wp_region_facts (ix := [[0], [1], [2], [3], [4], [5], [6], [7], [8], [9]]) (S := fun w' => Blk w' g4 27 (ints .u8 key) ∧ Below w.heap.size w w')
    (R := fun w1 w2 => Below w1.heap.size w1 w2)
    (p := fun jO vs w' => match jO with
      | 0 => vs 0 = .agg (ints .u8 key).toArray
      | 1 => vs 1 = .int .u32 i
      | 2 => vs 2 = .bool last
      | 3 => vs 3 = .agg (ints .u8 (nonceOf i last)).toArray
      | 4 => vs 4 = .slice A n c
      | 5 => ∃ v, vs 5 = .tuple #[v, .int .i64 (codeR r)] ∧ OpV w' w.heap.size r v
      | 6 => OpV w' w.heap.size r (vs 6)
      | 7 => vs 7 = .int .i64 (codeR r)
      | 8 => OpV w' w.heap.size r (vs 8)
      | 9 => vs 9 = .int .i64 (codeR r)
      | _ => True)
    (by kernel_rfl) (by kernel_rfl) ?_ ?_ ?_ ?_
  · exact ⟨hb4.drew, below_drewN hB1 1⟩
  · intro jO vs w1 w2 hR h
    match jO with
    | 0 | 1 | 2 | 3 | 4 | 7 | 9 => exact h
    | 5 => obtain ⟨v, h1, h2⟩ := h; exact ⟨v, h1, h2.below hR⟩
    | 6 => exact OpV.below h hR
    | 8 => exact OpV.below h hR
    | nO + 10 => trivial
  · refine ⟨?_, ?_, ?_, ?_, ?_, ?_, ?_, ?_, ?_, ?_, trivial⟩
    · (intro vs w2 hS hd; simp [Region.binds, Fact.at] at hd; simp only [fill, List.take_succ_cons, List.take_zero, Act.put, List.setIfInBounds_toArray, List.set_cons_zero, List.set_cons_succ, Nat.reduceAdd])
      try simp only [hd]
      go_wp2_with (first
        | (refine load_blk rfl 27 _ rfl g4 rfl 27 _ hS.1 32 5 arr23 (by simp [ints, hk]) info23 ?_)
        | fail)
      exact ⟨rfl, rfl, hS, Below.refl _ _⟩
    · (intro vs w2 hS hd; simp [Region.binds, Fact.at] at hd; simp only [fill, List.take_succ_cons, List.take_zero, Act.put, List.setIfInBounds_toArray, List.set_cons_zero, List.set_cons_succ, Nat.reduceAdd])
      try simp only [hd]
      go_wp2_with fail
      exact ⟨rfl, rfl, hS, Below.refl _ _⟩
    · (intro vs w2 hS hd; simp [Region.binds, Fact.at] at hd; simp only [fill, List.take_succ_cons, List.take_zero, Act.put, List.setIfInBounds_toArray, List.set_cons_zero, List.set_cons_succ, Nat.reduceAdd])
      try simp only [hd]
      go_wp2_with fail
      exact ⟨rfl, rfl, hS, Below.refl _ _⟩
    · (intro vs w2 hS hd; simp [Region.binds, Fact.at] at hd; simp only [fill, List.take_succ_cons, List.take_zero, Act.put, List.setIfInBounds_toArray, List.set_cons_zero, List.set_cons_succ, Nat.reduceAdd])
      simp only [hd]
      go_wp2_with (first
        | (go_at_call 42; refine (nonce16_calls i last w2 hi).mono ?_; rintro e w3 ⟨rfl, hB⟩)
        | fail)
      exact ⟨rfl, rfl, ⟨hS.1.belowAll hB, below_then hS.2 hS.2.size hB⟩, hB⟩
    · (intro vs w2 hS hd; simp [Region.binds, Fact.at] at hd; simp only [fill, List.take_succ_cons, List.take_zero, Act.put, List.setIfInBounds_toArray, List.set_cons_zero, List.set_cons_succ, Nat.reduceAdd])
      try simp only [hd]
      go_wp2_with fail
      exact ⟨rfl, rfl, hS, Below.refl _ _⟩
    · (intro vs w2 hS hd; simp [Region.binds, Fact.at] at hd; simp only [fill, List.take_succ_cons, List.take_zero, Act.put, List.setIfInBounds_toArray, List.set_cons_zero, List.set_cons_succ, Nat.reduceAdd])
      simp only [hd]
      go_wp2_with (first
        | (go_at_call 41; refine (open1_calls key (nonceOf i last) [] b none A 0 c 0 n w2 hk (nonceOf_length _ _) rk (nonceOf_ok i last hi) rfl (Rd.nil _ _ _) (fun j => by simp [rd]) HN.out hc (hr.below hS.2) rb (by simp) hlb).mono ?_; rintro e w3 ⟨v, kk, rfl, hop, hB⟩; rw [hr0.out] at hop; (have hkk := hop.n); subst hkk)
        | fail)
      exact ⟨rfl, ⟨v, rfl, hop.v.lower hS.2.size⟩, ⟨hS.1.belowAll hB, below_then hS.2 hS.2.size hB⟩, hB⟩
    · (intro vs w2 hS hd; simp [Region.binds, Fact.at] at hd; simp only [fill, List.take_succ_cons, List.take_zero, Act.put, List.setIfInBounds_toArray, List.set_cons_zero, List.set_cons_succ, Nat.reduceAdd])
      obtain ⟨v, h1, h2⟩ := hd
      simp only [h1]
      go_wp2_with fail
      exact ⟨rfl, h2, hS, Below.refl _ _⟩
    · (intro vs w2 hS hd; simp [Region.binds, Fact.at] at hd; simp only [fill, List.take_succ_cons, List.take_zero, Act.put, List.setIfInBounds_toArray, List.set_cons_zero, List.set_cons_succ, Nat.reduceAdd])
      obtain ⟨v, h1, h2⟩ := hd
      simp only [h1]
      go_wp2_with fail
      exact ⟨rfl, rfl, hS, Below.refl _ _⟩
    · (intro vs w2 hS hd; simp [Region.binds, Fact.at] at hd; simp only [fill, List.take_succ_cons, List.take_zero, Act.put, List.setIfInBounds_toArray, List.set_cons_zero, List.set_cons_succ, Nat.reduceAdd])
      go_wp2_with fail
      exact ⟨rfl, hd.1, hS, Below.refl _ _⟩
    · (intro vs w2 hS hd; simp [Region.binds, Fact.at] at hd; simp only [fill, List.take_succ_cons, List.take_zero, Act.put, List.setIfInBounds_toArray, List.set_cons_zero, List.set_cons_succ, Nat.reduceAdd])
      try simp only [hd]
      go_wp2_with fail
      exact ⟨rfl, rfl, hS, Below.refl _ _⟩
  · intro vs wq hf hS
    have h8 : OpV wq w.heap.size r (vs 8) := hf 8 (by simp)
    have h9 : vs 9 = .int .i64 (codeR r) := hf 9 (by simp)
    simp only [fill, Act.put, List.setIfInBounds_toArray, List.set_cons_zero, List.set_cons_succ, Nat.reduceAdd]
    clear hf
    go_wp2_with fail
    refine bodyPost_ret (Go.Cour.results_tmp2 rfl _ _ rfl rfl) rfl ?_
    exact ⟨_, by rw [h9]; rfl, opened1 h8, hS.2⟩
end Go.Proofs.YtlikinglgegclaaDoor
/- Key, of a number: its 32 bytes, each told. -/
namespace Go.Proofs.YtlikinglgegclaaDoor
open Go.RowKit Go.Cour
theorem info_key : (Tryd.prog.info? 27).map (·.size) = some 32 := by kernel_rfl
theorem arr_key : Tryd.prog.underlying 27 = some (.array 32 5) := by kernel_rfl
def keyByte (n : Int) (i : Nat) : Int := (n / 2 ^ (i % 8 * 4) + 17 * (i : Int)) % 256
def keyTo (n : Int) (i : Nat) : List Int := (List.range i).map (keyByte n) ++ List.replicate (32 - i) 0
def keyOf (n : Int) : List Int := (List.range 32).map (keyByte n)
theorem keyTo_length (n : Int) (i : Nat) (h : i ≤ 32) : (keyTo n i).length = 32 := by simp [keyTo]; omega
theorem keyOf_length (n : Int) : (keyOf n).length = 32 := by simp [keyOf]
theorem keyTo_all (n : Int) : keyTo n 32 = keyOf n := by simp [keyTo, keyOf]
theorem keyTo_set (n : Int) (i : Nat) (h : i < 32) : (keyTo n i).set i (keyByte n i) = keyTo n (i + 1) := by
  unfold keyTo
  have h1 : ((List.range i).map (keyByte n)).length = i := by simp
  rw [List.set_append_right _ _ (by omega), h1, Nat.sub_self, List.range_succ, List.map_append, List.append_assoc]
  have h2 : 32 - i = (32 - (i + 1)) + 1 := by omega
  rw [h2, List.replicate_succ]
  rfl
theorem keyByte_ok (n : Int) (i : Nat) : 0 ≤ keyByte n i ∧ keyByte n i < 256 := ⟨Int.emod_nonneg _ (by decide), Int.emod_lt_of_pos _ (by decide)⟩
theorem keyOf_ok (n : Int) : bytesOk (keyOf n) := by
  intro i
  unfold rd keyOf
  rw [List.getD_eq_getElem?_getD, List.getElem?_map]
  cases hx : (List.range 32)[i]? with
  | none => simp
  | some j => exact keyByte_ok n j
theorem keyOf_first (n : Int) : (keyOf n)[0]? = some (n % 256) := by simp [keyOf, keyByte]
theorem keyOf_ne {a b : Int} (ha : 0 ≤ a ∧ a < 256) (hb : 0 ≤ b ∧ b < 256) (h : a ≠ b) : keyOf a ≠ keyOf b := fun he => by
  have h1 := keyOf_first a
  rw [he, keyOf_first b] at h1
  injection h1 with h1
  omega
set_option maxHeartbeats 1000000 in
set_option maxRecDepth 100000 in
theorem keyC_calls (n : Int) (w : World) :
    Calls Tryd.prog 9 #[.int .i64 n] w fun e w' => e = .returned (.agg (ints .u8 (keyOf n)).toArray) ∧ Below w.heap.size w w' := by
  go_enter Tryd.func9, Tryd.ntmps9
  go_wp2
  go_loopg [4] 32 (fun kq v4 wr => ∃ i : Nat, i ≤ 32 ∧ v4 = .int .i64 i ∧ Hd (kq = 32 - i) ∧ Blk wr (w.heap.size + 1) 27 (ints .u8 (keyTo n i)) ∧ Blk wr w.heap.size 27 (ints .u8 (List.replicate 32 0)) ∧ Hd (Below w.heap.size w wr))
  case atStart =>
    refine ⟨0, by omega, rfl, hid rfl, ?_, ?_, hid ?_⟩
    · exact Blk.new' (w.alloc _) 27 (ints .u8 (List.replicate 32 0)) _ (by simp)
    · exact (Blk.new w 27 (ints .u8 (List.replicate 32 0))).alloc _
    · exact ((Below.refl _ _).alloc (Nat.le_refl _) _).alloc (by simp) _
  case round =>
    obtain ⟨i, hi, rfl, hk, h1, h0, hb⟩ := hrel
    have hl := hid (keyTo_length n i hi)
    by_cases hlt : i < 32
    · have hc := h1.cellI i (by rw [hl.out]; omega)
      have hf := h1.frozen i
      go_wp2
      go_roundg (gk - 1)
      case measure => have := hk.out; omega
      case rel =>
        refine ⟨i + 1, by omega, by go_num, hid ?_, ?_, h0.setOther (by simp) _, hid (hb.out.setCell (by simp) _)⟩
        · have := hk.out; omega
        · have h2 := h1.setI i (keyByte n i)
          rw [keyTo_set n i hlt] at h2
          exact h2
    · obtain rfl : i = 32 := by omega
      rw [keyTo_all] at h1
      have hl32 : (ints .u8 (keyOf n)).length = 32 := by simp [keyOf_length]
      go_wp2_with (first
        | (refine load_blk rfl 27 _ rfl (w.heap.size + 1) rfl 27 _ h1 32 5 arr_key hl32 info_key ?_)
        | (refine store_blk rfl 27 _ _ rfl w.heap.size _ rfl rfl 27 _ h0 32 info_key hl32 (by simp) (ints_one _ _) ?_))
      refine bodyPost_ret (results_blk rfl _ _ w.heap.size 27 _ 32 5 rfl (h0.setRow _) arr_key hl32 info_key) rfl ?_
      exact ⟨rfl, below_setRow hb.out (Nat.le_refl _) _⟩
end Go.Proofs.YtlikinglgegclaaDoor
/- Number: a number from 0 to below a bound. -/
namespace Go.Proofs.YtlikinglgegclaaDoor
open Go.RowKit Go.Cour
theorem tmod_low (a b : Int) (hb : 0 < b) : -b < a.tmod b ∧ a.tmod b < b := by
  have := Int.tmod_lt_of_pos a hb
  have := Int.lt_tmod_of_pos a hb
  omega
theorem emod_of_tmod (a b : Int) (hb : 0 < b) : a % b = if a.tmod b < 0 then a.tmod b + b else a.tmod b := by
  have h1 := tmod_low a b hb
  have h2 := Int.mul_tdiv_add_tmod a b
  split
  · refine (Int.emod_emod_of_dvd a (Int.dvd_refl b)).symm.trans ?_
    rw [← h2]
    have : (b * a.tdiv b + a.tmod b) % b = (a.tmod b + b) % b := by
      rw [Int.add_comm, Int.add_mul_emod_self_left, Int.add_emod_right]
    rw [h2] at this ⊢
    rw [Int.emod_emod_of_dvd _ (Int.dvd_refl b), this]
    exact Int.emod_eq_of_lt (by omega) (by omega)
  · have : (b * a.tdiv b + a.tmod b) % b = a.tmod b % b := by
      rw [Int.add_comm, Int.add_mul_emod_self_left]
    rw [h2] at this
    rw [this]
    exact Int.emod_eq_of_lt (by omega) (by omega)
theorem number_calls (a b : Int) (w : World) (hb : 0 < b) (hb2 : b < 4611686018427387904) :
    Calls Tryd.prog 7 #[.int .i64 a, .int .i64 b] w fun e w' => e = .returned (.int .i64 (a % b)) ∧ w' = w := by
  have hl := tmod_low a b hb
  have HE := hid (emod_of_tmod a b hb)
  have hbz : (b == 0) = false := by rw [beq_eq_false_iff_ne]; omega
  have hlt1 := hl.1
  have hlt2 := hl.2
  clear hl
  by_cases hn : a.tmod b < 0
  · go_enter Tryd.func7, Tryd.ntmps7
    go_wp2
    go_ret
    exact ⟨by rw [HE.out, if_pos hn]; rfl, rfl⟩
  · go_enter Tryd.func7, Tryd.ntmps7
    go_wp2
    go_ret
    exact ⟨by rw [HE.out, if_neg (by omega)]; rfl, rfl⟩
end Go.Proofs.YtlikinglgegclaaDoor
/- make([]T, n). -/
namespace Go.Cour
open Go.RowKit
section
variable {P : Program} {w : World} {ops : Array Oper} {rest : List Oper} {o : Oper} {a : Act} {Q : Exit → Act → World → Prop}
/-- make([]T, n), T whole numbers. -/
theorem make_zeros (hg : o.guard = none) (l c : Operand) (t : TypeId) (hop : o.op = Op.makeSlice t l c) (e : TypeId) (k : IntKind) (bytes : Nat) (h1 : P.underlying t = some (.slice e))
    (hi : (P.info? e).map (fun i => (i.zero, i.size, i.bytes)) = some (some (.int k 0), 1, bytes)) (kl kc : IntKind) (L C : Int) (n : Nat) (hl : a.eval l = .int kl L) (hc : a.eval c = .int kc C) (hL : L = (n : Int)) (hC : C = (n : Int)) (b2 : bytes * n ≤ 281474976710656) (b3 : n ≤ maxLen)
    (hK : ∀ g w', w.heap.size = g → Own w' g e k (.slice (some ⟨g, 0, none⟩) n n) (List.replicate n 0) → Below w.heap.size w w' → wpList P ops Q rest (a.put o.dst (.slice (some ⟨g, 0, none⟩) n n)) w') : wpList P ops Q (o :: rest) a w := by
  obtain ⟨i, hi0, hz0, hz1, hz2⟩ := info_parts hi
  refine wpList_make_full w hg l c t hop w.heap.size e i (.int k 0) 1 h1 hi0 hz0 hz1 kl kc L C n hl hc hL hC (by rw [hz2]; exact b2) b3 (Nat.le_refl _) fun w' ho hg' => ?_
  refine hK w.heap.size w' rfl ?_ ⟨hg'.os, hg'.tape, hg'.output, hg'.size, fun j hj => hg'.block j hj (by simp)⟩
  have hm : (madeCells (Value.int k 0).cells (n * 1)).toList = ints k (List.replicate n 0) := by
    rw [Nat.mul_one]
    show (madeCells #[Value.int k 0] n).toList = _
    rw [toList_madeCells_one]
    simp [ints]
  unfold Own
  rw [List.length_replicate, ← hm]
  exact ho
end
end Go.Cour
