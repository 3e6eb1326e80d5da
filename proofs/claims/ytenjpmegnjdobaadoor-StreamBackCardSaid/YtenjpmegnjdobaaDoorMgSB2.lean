import Derived.Great.BuildSlice
import Derived.Test.YtenjpmegnjdobaaDoorProg
import Derived.Deep.QuietTactic
import Derived.BigQuiet
import Derived.KernelRfl
import Derived.Test.YtenjpmegnjdobaaDoorMgSB0
import Derived.Test.YtenjpmegnjdobaaDoorMgSB1
set_option linter.unusedSimpArgs false
set_option linter.unusedVariables false
/- stream.All. -/
namespace Go.Proofs.YtenjpmegnjdobaaDoor
open Go.RowKit Go.Cour
theorem countI_bounds (p q : Int) : 1 ≤ countI p q ∧ countI p q ≤ max p 1 := by
  have h1 : 0 ≤ max p 0 / max q 1 := Int.ediv_nonneg (by omega) (by omega)
  have h2 : max p 0 / max q 1 * max q 1 ≤ max p 0 := Int.ediv_mul_le _ (by omega)
  have h3 : max p 0 / max q 1 ≤ max p 0 := Int.ediv_le_self _ (by omega)
  have h4 : max p 0 / max q 1 ≤ max p 0 / max q 1 * max q 1 := by have := Int.mul_le_mul_of_nonneg_left (show (1 : Int) ≤ max q 1 by omega) h1; rwa [Int.mul_one] at this
  unfold countI countD
  generalize max p 0 / max q 1 * max q 1 = e at *
  generalize max p 0 / max q 1 = d at *
  split <;> omega
/-- The chunks of a file, sealed, the first j of them. -/
def allTo (key xs : List Int) (q n : Int) (j : Nat) : List (List Int) := (List.range j).map fun (i : Nat) => ssealText key i ((i : Int) == n - 1) (pieceOf xs q i)
def allTexts (key xs : List Int) (q : Int) : List (List Int) := allTo key xs q (countI xs.length q) (countI xs.length q).toNat
theorem allTo_succ (key xs : List Int) (q n : Int) (j : Nat) : allTo key xs q n (j + 1) = allTo key xs q n j ++ [ssealText key j ((j : Int) == n - 1) (pieceOf xs q j)] := by simp [allTo, List.range_succ]
theorem allTo_length (key xs : List Int) (q n : Int) (j : Nat) : (allTo key xs q n j).length = j := by simp [allTo]
theorem pieceOf_le (xs : List Int) (q i : Int) : (pieceOf xs q i).length ≤ xs.length := by
  unfold pieceOf
  split
  · simp
  · rw [List.length_take, List.length_drop]; omega
theorem infoLL : (Tryd.prog.info? 24).map (fun i => (i.zero.map (·.cells.size), i.size, i.bytes)) = some (some 1, 1, 24) := by kernel_rfl
theorem undLL : Tryd.prog.underlying 28 = some (.slice 24) := by kernel_rfl
theorem sizeBytes : (Tryd.prog.info? 24).map (·.size) = some 1 := by kernel_rfl
theorem zeroBytes : ((Tryd.prog.info? 24).bind (·.zero)).isSome = true := by kernel_rfl
set_option maxHeartbeats 800000 in
set_option maxRecDepth 100000 in
theorem all_calls (key xs : List Int) (q : Int) (A : Option Addr) (m c : Nat) (w : World) (hk : key.length = 32) (rk : bytesOk key)
    (hm : m = xs.length) (hA : A = none → c = 0) (hc : m ≤ c) (hr : Rd w A .u8 xs) (hl : xs.length ≤ 100000) (hq : -1000000 ≤ q ∧ q ≤ 1000000) :
    Calls Tryd.prog 7 #[.agg (ints .u8 key).toArray, .slice A m c, .int .i64 q] w fun e w' => ∃ v, e = .returned v ∧ OwnL w' w.heap.size 24 5 .u8 v (allTexts key xs q) ∧ Below w.heap.size w w' := by
  subst hm
  obtain ⟨N, hN⟩ : ∃ N : Nat, Hd (countI xs.length q = (N : Int)) := ⟨(countI xs.length q).toNat, ⟨by have := (countI_bounds xs.length q).1; omega⟩⟩
  have hNb : 1 ≤ N ∧ N ≤ 100000 := by have := countI_bounds xs.length q; have := hN.out; omega
  have hAll : Hd (allTexts key xs q = allTo key xs q N N) := ⟨by rw [allTexts, hN.out]; rfl⟩
  obtain ⟨zs, hzs⟩ : ∃ zs : List Int, Hd (zs = xs) := ⟨xs, ⟨rfl⟩⟩
  go_enter Tryd.func7, Tryd.ntmps7
  go_wp2_with (first
    | (refine box_blk rfl 23 _ rfl _ rfl (ints .u8 key) rfl ?_; intro g4 w1 hg4 hb4 hB1 hs1; clear hg4 hs1)
    | (go_at_call 9; refine (count_calls _ _ _ (by omega) hq).mono ?_; rintro e w2 ⟨rfl, rfl⟩; rw [hN.out])
    | fail)
  go_loopg [8, 15] N (fun kq v8 v15 wr => ∃ i : Nat, i ≤ N ∧ v15 = .int .i64 i ∧ Hd (kq + i = N) ∧ OwnL wr w.heap.size 24 5 .u8 v8 (allTo key xs q N i) ∧ Blk wr g4 23 (ints .u8 key) ∧ Below w.heap.size w wr)
  case atStart => exact ⟨0, by omega, rfl, hid (by omega), OwnL.nil _ _ _ _ _, hb4, hB1⟩
  case round =>
    clear hb4 hB1
    obtain ⟨i, hi, rfl, hgq, ho, hb4, hB⟩ := hrel
    by_cases hlt : i < N
    · have hlt' : (i : Int) < N := by omega
      obtain ⟨L, hL⟩ : ∃ L, ((i : Int) == (N : Int) - 1) = L := ⟨_, rfl⟩
      have HL := hid hL
      obtain ⟨TX, hTX⟩ : ∃ TX, Hd (ssealText key i L (pieceOf xs q i) = TX) := ⟨_, ⟨rfl⟩⟩
      go_wp2_with fail
      refine wp_region_factsU (ix := [[0], [1], [2], [3], [4], [5], [6], [7], [8], [9], [10], [11], [12], [13], [14], [15]]) (S := fun w' => Blk w' g4 23 (ints .u8 key) ∧ Below w.heap.size w w')
        (R := fun iO w1 w2 => if iO = 14 then w1.grownBy w2 u8.ownBlock else (Below w1.heap.size w1 w2))
        (U := fun iO w1 => match iO with
          | 14 => OwnL w1 w.heap.size 24 5 .u8 u8 (allTo key xs q N i)
          | _ => True)
        (kill := fun jO => match jO with
          | 11 => some 14
          | 12 => some 14
          | 13 => some 14
          | _ => none)
        (p := fun jO vs w' => match jO with
          | 0 => vs 0 = u8
          | 1 => vs 1 = .agg (ints .u8 key).toArray
          | 2 => vs 2 = .int .i64 i
          | 3 => vs 3 = .int .u32 i
          | 4 => vs 4 = .int .i64 i
          | 5 => vs 5 = .int .i64 N
          | 6 => vs 6 = .int .i64 ((N : Int) - 1)
          | 7 => vs 7 = .bool L
          | 8 => vs 8 = .slice A xs.length c
          | 9 => vs 9 = .int .i64 q
          | 10 => vs 10 = .int .i64 i
          | 11 => Own w' w.heap.size 5 .u8 (vs 11) (pieceOf xs q i)
          | 12 => Own w' w.heap.size 5 .u8 (vs 12) TX
          | 13 => ∃ g, vs 13 = .slice (some ⟨g, 0, none⟩) 1 1 ∧ ∃ u, Blk w' g 24 [u] ∧ Own w' w.heap.size 5 .u8 u TX
          | 14 => OwnL w' w.heap.size 24 5 .u8 (vs 14) (allTo key xs q N (i + 1))
          | 15 => OwnL w' w.heap.size 24 5 .u8 (vs 15) (allTo key xs q N (i + 1))
          | _ => True)
        (ks := [(11, 12), (12, 13)])
        (hm := by kernel_rfl) (hc := by kernel_rfl) ?_ ?_ ?_ ?_ ?_ ?_
      · exact ⟨hb4.drew, below_drewN hB 1⟩
      · intro iO jO vs w1 w2 hij hw hkl hR h
        have hB : iO ≠ 14 → Below w1.heap.size w1 w2 := fun h14 => by rw [if_neg h14] at hR; exact hR
        match jO with
        | 0 | 1 | 2 | 3 | 4 | 5 | 6 | 7 | 8 | 9 | 10 => exact h
        | 11 => exact Own.below h (hB (by rintro rfl; exact hkl rfl))
        | 12 => exact Own.below h (hB (by rintro rfl; exact hkl rfl))
        | 13 => obtain ⟨g, h1, u, h2, h3⟩ := h; exact ⟨g, h1, u, h2.belowAll (hB (by rintro rfl; exact hkl rfl)), h3.below (hB (by rintro rfl; exact hkl rfl))⟩
        | 14 => exact OwnL.below h (hB (by rintro rfl; exact hij rfl))
        | 15 => exact OwnL.below h (hB (by rintro rfl; exact absurd (Eq.trans (by kernel_rfl : true = _) hw) (by decide)))
        | nO + 16 => trivial
      · intro jO
        match jO with
        | 14 => exact ho.drew
        | 0 | 1 | 2 | 3 | 4 | 5 | 6 | 7 | 8 | 9 | 10 | 11 | 12 | 13 | 15 | nO + 16 => trivial
      · intro iO jO w1 w2 hij hw hR h
        have hB : iO ≠ 14 → Below w1.heap.size w1 w2 := fun h14 => by rw [if_neg h14] at hR; exact hR
        match jO with
        | 14 => exact OwnL.below h (hB (fun he => hij he))
        | 0 | 1 | 2 | 3 | 4 | 5 | 6 | 7 | 8 | 9 | 10 | 11 | 12 | 13 | 15 | nO + 16 => trivial
      · refine ⟨?_, ?_, ?_, ?_, ?_, ?_, ?_, ?_, ?_, ?_, ?_, ?_, ?_, ?_, ?_, ?_, trivial⟩
        · (intro vs w2 hS hU hd; simp [Region.binds, Fact.at] at hd; simp only [fill, List.take_succ_cons, List.take_zero, Act.put, List.setIfInBounds_toArray, List.set_cons_zero, List.set_cons_succ, Nat.reduceAdd])
          try simp only [hd]
          go_wp2_with fail
          exact ⟨rfl, rfl, hS, Below.refl _ _⟩
        · (intro vs w2 hS hU hd; simp [Region.binds, Fact.at] at hd; simp only [fill, List.take_succ_cons, List.take_zero, Act.put, List.setIfInBounds_toArray, List.set_cons_zero, List.set_cons_succ, Nat.reduceAdd])
          try simp only [hd]
          go_wp2_with (first
            | (refine load_blk rfl 23 _ rfl g4 rfl 23 _ hS.1 32 5 arr23 (by simp [ints, hk]) info23 ?_)
            | fail)
          exact ⟨rfl, rfl, hS, Below.refl _ _⟩
        · (intro vs w2 hS hU hd; simp [Region.binds, Fact.at] at hd; simp only [fill, List.take_succ_cons, List.take_zero, Act.put, List.setIfInBounds_toArray, List.set_cons_zero, List.set_cons_succ, Nat.reduceAdd])
          try simp only [hd]
          go_wp2_with fail
          exact ⟨rfl, rfl, hS, Below.refl _ _⟩
        · (intro vs w2 hS hU hd; simp [Region.binds, Fact.at] at hd; simp only [fill, List.take_succ_cons, List.take_zero, Act.put, List.setIfInBounds_toArray, List.set_cons_zero, List.set_cons_succ, Nat.reduceAdd])
          simp only [hd]
          go_wp2_with fail
          exact ⟨rfl, rfl, hS, Below.refl _ _⟩
        · (intro vs w2 hS hU hd; simp [Region.binds, Fact.at] at hd; simp only [fill, List.take_succ_cons, List.take_zero, Act.put, List.setIfInBounds_toArray, List.set_cons_zero, List.set_cons_succ, Nat.reduceAdd])
          try simp only [hd]
          go_wp2_with fail
          exact ⟨rfl, rfl, hS, Below.refl _ _⟩
        · (intro vs w2 hS hU hd; simp [Region.binds, Fact.at] at hd; simp only [fill, List.take_succ_cons, List.take_zero, Act.put, List.setIfInBounds_toArray, List.set_cons_zero, List.set_cons_succ, Nat.reduceAdd])
          try simp only [hd]
          go_wp2_with fail
          exact ⟨rfl, rfl, hS, Below.refl _ _⟩
        · (intro vs w2 hS hU hd; simp [Region.binds, Fact.at] at hd; simp only [fill, List.take_succ_cons, List.take_zero, Act.put, List.setIfInBounds_toArray, List.set_cons_zero, List.set_cons_succ, Nat.reduceAdd])
          simp only [hd]
          go_wp2_with fail
          exact ⟨rfl, rfl, hS, Below.refl _ _⟩
        · (intro vs w2 hS hU hd; simp [Region.binds, Fact.at] at hd; simp only [fill, List.take_succ_cons, List.take_zero, Act.put, List.setIfInBounds_toArray, List.set_cons_zero, List.set_cons_succ, Nat.reduceAdd])
          simp only [hd]
          go_wp2_with fail
          exact ⟨rfl, rfl, hS, Below.refl _ _⟩
        · (intro vs w2 hS hU hd; simp [Region.binds, Fact.at] at hd; simp only [fill, List.take_succ_cons, List.take_zero, Act.put, List.setIfInBounds_toArray, List.set_cons_zero, List.set_cons_succ, Nat.reduceAdd])
          try simp only [hd]
          go_wp2_with fail
          exact ⟨rfl, rfl, hS, Below.refl _ _⟩
        · (intro vs w2 hS hU hd; simp [Region.binds, Fact.at] at hd; simp only [fill, List.take_succ_cons, List.take_zero, Act.put, List.setIfInBounds_toArray, List.set_cons_zero, List.set_cons_succ, Nat.reduceAdd])
          try simp only [hd]
          go_wp2_with fail
          exact ⟨rfl, rfl, hS, Below.refl _ _⟩
        · (intro vs w2 hS hU hd; simp [Region.binds, Fact.at] at hd; simp only [fill, List.take_succ_cons, List.take_zero, Act.put, List.setIfInBounds_toArray, List.set_cons_zero, List.set_cons_succ, Nat.reduceAdd])
          try simp only [hd]
          go_wp2_with fail
          exact ⟨rfl, rfl, hS, Below.refl _ _⟩
        · (intro vs w2 hS hU hd; simp [Region.binds, Fact.at] at hd; simp only [fill, List.take_succ_cons, List.take_zero, Act.put, List.setIfInBounds_toArray, List.set_cons_zero, List.set_cons_succ, Nat.reduceAdd])
          simp only [hd]
          go_wp2_with (first
            | (go_at_call 12; refine (piece_calls xs A _ c q i w2 rfl hA hc (hr.below hS.2) hl hq (by omega)).mono ?_; rintro e w3 ⟨v, rfl, ho9, hB9⟩)
            | fail)
          exact ⟨rfl, ho9.lower hS.2.size, ⟨hS.1.belowAll hB9, below_then hS.2 hS.2.size hB9⟩, hB9⟩
        · (intro vs w2 hS hU hd; simp [Region.binds, Fact.at] at hd; simp only [fill, List.take_succ_cons, List.take_zero, Act.put, List.setIfInBounds_toArray, List.set_cons_zero, List.set_cons_succ, Nat.reduceAdd])
          obtain ⟨h1, h3, h7, h11⟩ := hd
          have hpl := Nat.le_trans (pieceOf_le xs q i) hl
          obtain ⟨ps, hps⟩ : ∃ ps, Hd (ps = pieceOf xs q i) := ⟨_, ⟨rfl⟩⟩
          rw [← hps.out] at h11 hpl
          obtain ⟨A1, c1, hv1, hc1, hA1, hr1⟩ := h11.parts
          simp only [h1, h3, h7, hv1]
          go_wp2_with (first
            | (go_at_call 15; refine (sseal_calls key i L ps A1 _ c1 w2 hk rk (by omega) rfl hr1 hpl).mono ?_; rintro e w3 ⟨v, rfl, ho9, hB9⟩; rw [hps.out, hTX.out] at ho9)
            | fail)
          exact ⟨rfl, ho9.lower hS.2.size, ⟨hS.1.belowAll hB9, below_then hS.2 hS.2.size hB9⟩, hB9⟩
        · (intro vs w2 hS hU hd; simp [Region.binds, Fact.at] at hd; simp only [fill, List.take_succ_cons, List.take_zero, Act.put, List.setIfInBounds_toArray, List.set_cons_zero, List.set_cons_succ, Nat.reduceAdd])
          obtain ⟨A1, c1, hv1, hc1, hA1, hr1⟩ := hd.parts
          go_wp2_with (first
            | (refine literal_one rfl 28 24 _ rfl (vs 12) rfl (by rw [hv1]; rfl) undLL sizeBytes zeroBytes ?_; intro g w3 hg9 hb9 hB9 hs9)
            | fail)
          exact ⟨rfl, ⟨g, rfl, vs 12, hb9, hd.below hB9⟩, ⟨hS.1.belowAll hB9, below_then hS.2 hS.2.size hB9⟩, hB9⟩
        · (intro vs w2 hS hU hd; simp [Region.binds, Fact.at] at hd; simp only [fill, List.take_succ_cons, List.take_zero, Act.put, List.setIfInBounds_toArray, List.set_cons_zero, List.set_cons_succ, Nat.reduceAdd])
          obtain ⟨h0, ⟨g, h1, u, h2, h3⟩, _⟩ := hd
          have hU' : OwnL w2 w.heap.size 24 5 .u8 u8 (allTo key xs q N i) := hU
          simp only [h0, h1]
          go_wp2_with (first
            | (at_builtin; refine append_row rfl (.tmp 18) (.tmp 31) 28 rfl w.heap.size 24 5 .u8 24 undLL infoLL (by decide) u8 (allTo key xs q N i) rfl hU' g u TX rfl h2 h3 (by rw [allTo_length]; omega) (by rw [allTo_length]; omega) hS.2.size ?_; intro v9 w3 ho9 hg9; rw [← hTX.out, ← HL.out, ← allTo_succ] at ho9)
            | fail)
          obtain ⟨cs9, hv9, _⟩ := id hU'
          exact ⟨rfl, ho9, ⟨hS.1.grown hg9 (hv9.ne_blk hS.1 (by decide)), hU'.grown_below hS.2 hg9 hS.2.size (Nat.le_refl _)⟩, hg9⟩
        · (intro vs w2 hS hU hd; simp [Region.binds, Fact.at] at hd; simp only [fill, List.take_succ_cons, List.take_zero, Act.put, List.setIfInBounds_toArray, List.set_cons_zero, List.set_cons_succ, Nat.reduceAdd])
          go_wp2_with fail
          exact ⟨rfl, hd.1, hS, Below.refl _ _⟩
      · intro vs wq hf hS
        have h15 : OwnL wq w.heap.size 24 5 .u8 (vs 15) (allTo key xs q N (i + 1)) := hf 15 (by simp) rfl
        simp only [fill, Act.put, List.setIfInBounds_toArray, List.set_cons_zero, List.set_cons_succ, Nat.reduceAdd]
        clear hf hL
        go_wp2_with fail
        go_roundg (gk - 1)
        case measure => have := hgq.out; omega
        case rel => exact ⟨i + 1, by omega, by go_num, hid (by have := hgq.out; omega), h15, hS.1, hS.2⟩
    · obtain rfl : i = N := by omega
      have hlt' : ¬ ((i : Int) < i) := by omega
      go_wp2_with fail
      go_ret
      refine ⟨_, rfl, ?_, hB⟩
      rw [hAll.out]
      exact ho
end Go.Proofs.YtenjpmegnjdobaaDoor
/- courierlaw16.first. -/
namespace Go.Proofs.YtenjpmegnjdobaaDoor
open Go.RowKit Go.Cour
theorem bytesOk_zeros (n : Nat) : bytesOk (List.replicate n 0) := by
  intro i
  unfold rd
  rw [List.getD_eq_getElem?_getD, List.getElem?_replicate]
  split <;> simp
set_option maxHeartbeats 400000 in
set_option maxRecDepth 100000 in
theorem first16_calls (w : World) : Calls Tryd.prog 5 #[] w fun e w' => e = .returned (.bool true) ∧ Below w.heap.size w w' := by
  have c1 : countI 0 5 = 1 := by decide
  have c2 : countI 11 5 = 3 := by decide
  have hz := bytesOk_zeros 32
  go_enter Tryd.func5, Tryd.ntmps5
  go_wp2_with (first
    | (go_at_call 9; refine (count_calls _ _ _ (by omega) (by omega)).mono ?_; rintro e w2 ⟨rfl, rfl⟩)
    | (refine build_to rfl 23 _ rfl (ints .u8 (List.replicate 32 0)).toArray (by kernel_rfl) ?_)
    | (go_at_call 7; refine (all_calls (List.replicate 32 0) [] 5 none 0 0 _ rfl hz rfl (fun _ => rfl) (Nat.le_refl _) (Rd.nil _ _ _) (by simp) (by omega)).mono ?_
       rintro e w2 ⟨v, rfl, ⟨cs, hv, hcl, _⟩, hB⟩
       have hcs : cs.length = 1 := by rw [hcl, allTexts, allTo_length]; exact congrArg Int.toNat c1
       obtain ⟨A, c, rfl, hc, _⟩ := hv.parts
       rw [hcs])
    | fail)
  go_ret
  exact ⟨rfl, hB⟩
end Go.Proofs.YtenjpmegnjdobaaDoor
/- The numbers of api's errors. -/
namespace Go.Proofs.YtenjpmegnjdobaaDoor
open Go.RowKit Go.Cour
/-- All of them, in order. -/
def errL (P : Nat → Addr) : List Value := [errV (P 0), errV (P 1), errV (P 2), errV (P 3), errV (P 4), errV (P 5), errV (P 6), errV (P 7), errV (P 8), errV (P 9), errV (P 10), errV (P 11), errV (P 12), errV (P 13), errV (P 14), errV (P 15), errV (P 16), errV (P 17), errV (P 18)]
theorem errL_get (P : Nat → Addr) (i : Nat) (h : i < 19) : (errL P)[i]? = some (errV (P i)) := by
  have h1 : i = 0 ∨ i = 1 ∨ i = 2 ∨ i = 3 ∨ i = 4 ∨ i = 5 ∨ i = 6 ∨ i = 7 ∨ i = 8 ∨ i = 9 ∨ i = 10 ∨ i = 11 ∨ i = 12 ∨ i = 13 ∨ i = 14 ∨ i = 15 ∨ i = 16 ∨ i = 17 ∨ i = 18 := by omega
  rcases h1 with rfl | rfl | rfl | rfl | rfl | rfl | rfl | rfl | rfl | rfl | rfl | rfl | rfl | rfl | rfl | rfl | rfl | rfl | rfl <;> rfl
theorem errL_cells (P : Nat → Addr) : ∀ u ∈ errL P, u.cells = #[u] := by
  intro u hu
  obtain ⟨i, hi⟩ := List.getElem?_of_mem hu
  have hl : i < 19 := by
    have := (List.getElem?_eq_some_iff.1 hi).1
    simpa [errL] using this
  rw [errL_get P i hl] at hi
  injection hi with hi
  subst hi
  rfl
theorem undLErr : Tryd.prog.underlying 89 = some (.slice 35) := by kernel_rfl
theorem sizeErr : (Tryd.prog.info? 35).map (·.size) = some 1 := by kernel_rfl
theorem zeroErr : ((Tryd.prog.info? 35).bind (·.zero)).isSome = true := by kernel_rfl
/-- A slice literal of values of one cell each. -/
theorem literal_vals {P : Program} {ops : Array Oper} {rest : List Oper} {o : Oper} {a : Act} {w : World} {Q : Exit → Act → World → Prop} (hw : Region.wanted o (yielded ops a.tmps) = true) (t e : TypeId) (len : Nat) (parts : Array (Nat × Operand)) (ho : o.op = .buildSlice t len parts)
    (us : List Value) (hparts : (parts.map fun (i, x) => (i, a.eval x)).toList = (us.zipIdx 0).map fun x => (x.2, x.1)) (h1 : ∀ u ∈ us, u.cells = #[u])
    (ht : P.underlying t = some (.slice e)) (hsz : (P.info? e).map (·.size) = some 1) (hz : ((P.info? e).bind (·.zero)).isSome = true) (hlen : len = us.length) (hpos : 0 < len) (hsmall : len ≤ 2 ^ 24)
    (h : ∀ (g : Nat) (w' : World), w.heap.size = g → Blk w' g e us → Below w.heap.size w w' → w'.heap.size = g + 1 → wpList P ops Q rest (a.put o.dst (.slice (some ⟨g, 0, none⟩) len len)) w') :
    wpList P ops Q (o :: rest) a w := by
  have h2 := h w.heap.size _ rfl (Blk.new w e us) ((Below.refl _ _).alloc (Nat.le_refl _) _) (by simp)
  cases hie : P.info? e with
  | none => simp [hie] at hsz
  | some ie =>
    simp only [hie, Option.map_some, Option.some.injEq, Option.bind_some] at hsz hz
    obtain ⟨z, hzz⟩ := Option.isSome_iff_exists.1 hz
    refine wpList_step fun K hK => ?_
    rw [if_pos hw]
    refine wp_buildSlice t e len _ ho us.toArray ie z ht hie hzz (by rw [hsz]; omega) (by rw [hsz]; omega) ?_ (hK _ _ h2)
    rw [hparts, hsz]
    exact Great.fill_flat us _ h1 (by simp [hlen])
set_option maxHeartbeats 1000000 in
set_option maxRecDepth 100000 in
theorem sentinels_calls {w : World} {P : Nat → Addr} (h : Errs w P) :
    Calls Tryd.prog 57 #[] w fun e w' => ∃ g, e = .returned (.slice (some ⟨g, 0, none⟩) 19 19) ∧ w.heap.size ≤ g ∧ Blk w' g 35 (errL P) ∧ Below w.heap.size w w' := by
  have e0 := h.cell 0 (by omega)
  have e1 := h.cell 1 (by omega)
  have e2 := h.cell 2 (by omega)
  have e3 := h.cell 3 (by omega)
  have e4 := h.cell 4 (by omega)
  have e5 := h.cell 5 (by omega)
  have e6 := h.cell 6 (by omega)
  have e7 := h.cell 7 (by omega)
  have e8 := h.cell 8 (by omega)
  have e9 := h.cell 9 (by omega)
  have e10 := h.cell 10 (by omega)
  have e11 := h.cell 11 (by omega)
  have e12 := h.cell 12 (by omega)
  have e13 := h.cell 13 (by omega)
  have e14 := h.cell 14 (by omega)
  have e15 := h.cell 15 (by omega)
  have e16 := h.cell 16 (by omega)
  have e17 := h.cell 17 (by omega)
  have e18 := h.cell 18 (by omega)
  simp only [globs, List.getD_cons_zero, List.getD_cons_succ] at e0 e1 e2 e3 e4 e5 e6 e7 e8 e9 e10 e11 e12 e13 e14 e15 e16 e17 e18
  go_enter Tryd.func57, Tryd.ntmps57
  go_wp2_with (first
    | (refine literal_vals rfl 89 35 19 _ rfl (errL P) (by kernel_rfl) (errL_cells P) undLErr sizeErr zeroErr rfl (by omega) (by omega) ?_; intro g w1 hg hb hB hs)
    | fail)
  go_ret
  exact ⟨g, rfl, by omega, hb, hB⟩
set_option maxHeartbeats 1000000 in
set_option maxRecDepth 100000 in
theorem sentinel_calls {w : World} {P : Nat → Addr} (h : Errs w P) (k : Nat) (hk : k < 19) :
    Calls Tryd.prog 46 #[errV (P k)] w fun e w' => e = .returned (.int .i64 (101 + (k : Int))) ∧ Below w.heap.size w w' := by
  go_enter Tryd.func46, Tryd.ntmps46
  go_wp2_with (first
    | (go_at_call 57; refine (sentinels_calls h).mono ?_; rintro e w1 ⟨g, rfl, hg, hb, hB⟩)
    | fail)
  go_loopg [4] (k + 1) (fun kq v4 wr => ∃ i : Nat, i ≤ k ∧ v4 = .int .i64 i ∧ Hd (kq + i = k + 1) ∧ wr = w1)
  case atStart => exact ⟨0, by omega, rfl, hid (by omega), rfl⟩
  case round =>
    obtain ⟨i, hi, rfl, hq, rfl⟩ := hrel
    have hi19 : (i : Int) < 19 := by omega
    have hc : wr.cell? ⟨g, i, none⟩ = some (errV (P i)) := by rw [hb.cell, errL_get P i (by omega)]
    by_cases hik : k = i
    · subst hik
      have hd : decide (k = k) = true := decide_eq_true rfl
      have hd := hid hd
      go_wp2_with (first
        | (go_at_call 58; refine (alike_calls (h.below hB) k k hk hk).mono ?_; rintro e w2 ⟨he, hw2⟩; rw [hd.out] at he; subst he; subst w2)
        | fail)
      go_ret
      exact ⟨rfl, hB⟩
    · have hd := hid (decide_eq_false hik)
      have hik2 := hid hik
      clear hik
      go_wp2_with (first
        | (go_at_call 58; refine (alike_calls (h.below hB) k i hk (by omega)).mono ?_; rintro e w2 ⟨he, hw2⟩; rw [hd.out] at he; subst he; subst w2)
        | fail)
      go_roundg (gk - 1)
      case measure => have := hq.out; omega
      case rel => exact ⟨i + 1, by have := hik2.out; omega, by go_num, hid (by have := hq.out; omega), rfl⟩
end Go.Proofs.YtenjpmegnjdobaaDoor
/- Errors as faults. -/
namespace Go.Proofs.YtenjpmegnjdobaaDoor
open Go.RowKit Go.Cour
theorem assert_err (a : Addr) (w : World) : (Instr.typeAssert (errV a) 35 67 true).run Tryd.prog w = .ok (.tuple #[.pointer none, .bool false]) w := by kernel_rfl
set_option maxHeartbeats 400000 in
set_option maxRecDepth 100000 in
theorem fault_nil_calls (w : World) : Calls Tryd.prog 38 #[.nilIface] w fun e w' => e = .returned (.agg (faultC 0 false 0).toArray) ∧ Below w.heap.size w w' := by
  obtain ⟨fs, hfs⟩ := undF
  have h2 := nil_nil
  go_enter Tryd.func38, Tryd.ntmps38
  go_wp2_with (first
    | (refine alloc_blk rfl 53 rfl _ rfl (faultC 0 false 0) zeroF ?_; intro g1 w1 hg1 hb1 hB1 hs1; clear hs1)
    | (go_at_call 45; refine (none_calls _).mono ?_; rintro e w2 ⟨rfl, hB2⟩; have hb2 := hb1.belowAll hB2)
    | (refine store_blk rfl 53 _ _ rfl g1 (faultC 0 false 0) rfl rfl 53 _ hb2 3 infoF rfl rfl (oneF _ _ _) ?_)
    | fail)
  refine bodyPost_ret (results_str1 rfl _ _ g1 53 _ fs rfl (hb2.setRow (faultC 0 false 0)) hfs infoF) rfl ?_
  exact ⟨rfl, below_setRow (below_then hB1 hB1.size hB2) (by omega) _⟩
set_option maxHeartbeats 400000 in
set_option maxRecDepth 100000 in
theorem fault_calls {w : World} {P : Nat → Addr} (h : Errs w P) (k : Nat) (hk : k < 19) : Calls Tryd.prog 38 #[errV (P k)] w fun e w' => e = .returned (.agg (faultC (101 + (k : Int)) false 0).toArray) ∧ Below w.heap.size w w' := by
  obtain ⟨fs, hfs⟩ := undF
  have h2 := err_nil_right (P k)
  have h4 := fun op t x y v => eqGuard_err op t x y (P k) v
  have h5 := assert_err (P k)
  obtain ⟨c, hc⟩ : ∃ c : Int, Hd (101 + (k : Int) = c) := ⟨_, ⟨rfl⟩⟩
  rw [hc.out]
  go_enter Tryd.func38, Tryd.ntmps38
  go_wp2_with (first
    | (refine alloc_blk rfl 53 rfl _ rfl (faultC 0 false 0) zeroF ?_; intro g1 w1 hg1 hb1 hB1 hs1; clear hs1)
    | (go_at_call 46; refine (sentinel_calls (h.below hB1) k hk).mono ?_; rintro e w2 ⟨rfl, hB2⟩; rw [hc.out]; have hb2 := hb1.belowAll hB2)
    | (go_at_call 31; refine (bare_calls _ _).mono ?_; rintro e w3 ⟨rfl, hB3⟩; have hb3 := hb2.belowAll hB3)
    | (refine store_blk rfl 53 _ _ rfl g1 (faultC c false 0) rfl rfl 53 _ hb3 3 infoF rfl rfl (oneF _ _ _) ?_)
    | fail)
  refine bodyPost_ret (results_str1 rfl _ _ g1 53 _ fs rfl (hb3.setRow (faultC c false 0)) hfs infoF) rfl ?_
  exact ⟨rfl, below_setRow (below_then (below_then hB1 hB1.size hB2) (by have := hB1.size; have := hB2.size; omega) hB3) (by omega) _⟩
end Go.Proofs.YtenjpmegnjdobaaDoor
/- Is: an error, held against a number. -/
namespace Go.Proofs.YtenjpmegnjdobaaDoor
open Go.RowKit Go.Cour
set_option maxHeartbeats 400000 in
set_option maxRecDepth 100000 in
theorem same_nil_calls (c : Int) (w : World) : Calls Tryd.prog 30 #[.nilIface, .agg (faultC c false 0).toArray] w fun e w' => e = .returned (.bool ((0 : Int) == c)) ∧ Below w.heap.size w w' := by
  obtain ⟨fs, hfs⟩ := undF
  go_enter Tryd.func30, Tryd.ntmps30
  go_wp2_with (first
    | (refine box_blk rfl 53 _ rfl _ rfl (faultC c false 0) rfl ?_; intro g4 w1 hg4 hb4 hB1 hs1; clear hg4 hs1)
    | fail)
  refine wp_region_facts (ix := [[0], [1], [2], [3], [4]]) (S := fun w' => Blk w' g4 53 (faultC c false 0) ∧ Below w.heap.size w w')
    (R := fun w1 w2 => Below w1.heap.size w1 w2)
    (p := fun jO vs w' => match jO with
      | 0 => vs 0 = .nilIface
      | 1 => vs 1 = .agg (faultC ((0 : Int)) false 0).toArray
      | 2 => vs 2 = .agg (faultC c false 0).toArray
      | 3 => vs 3 = .bool ((0 : Int) == c)
      | 4 => vs 4 = .bool ((0 : Int) == c)
      | _ => True)
    (by kernel_rfl) (by kernel_rfl) ?_ ?_ ?_ ?_
  · exact ⟨hb4.drew, below_drewN hB1 1⟩
  · intro jO vs w1 w2 hR h
    match jO with
    | 0 | 1 | 2 | 3 | 4 => exact h
    | nO + 5 => trivial
  · refine ⟨?_, ?_, ?_, ?_, ?_, trivial⟩
    · (intro vs w2 hS hd; simp [Region.binds, Fact.at] at hd; simp only [fill, List.take_succ_cons, List.take_zero, Act.put, List.setIfInBounds_toArray, List.set_cons_zero, List.set_cons_succ, Nat.reduceAdd])
      try simp only [hd]
      go_wp2_with fail
      exact ⟨rfl, rfl, hS, Below.refl _ _⟩
    · (intro vs w2 hS hd; simp [Region.binds, Fact.at] at hd; simp only [fill, List.take_succ_cons, List.take_zero, Act.put, List.setIfInBounds_toArray, List.set_cons_zero, List.set_cons_succ, Nat.reduceAdd])
      simp only [hd]
      go_wp2_with (first
        | (go_at_call 38; refine (fault_nil_calls _).mono ?_; rintro e w3 ⟨rfl, hB⟩)
        | fail)
      exact ⟨rfl, rfl, ⟨hS.1.belowAll hB, below_then hS.2 hS.2.size hB⟩, hB⟩
    · (intro vs w2 hS hd; simp [Region.binds, Fact.at] at hd; simp only [fill, List.take_succ_cons, List.take_zero, Act.put, List.setIfInBounds_toArray, List.set_cons_zero, List.set_cons_succ, Nat.reduceAdd])
      try simp only [hd]
      go_wp2_with (first
        | (refine load_str rfl 53 _ rfl g4 rfl 53 _ hS.1 fs hfs infoF ?_)
        | fail)
      exact ⟨rfl, rfl, hS, Below.refl _ _⟩
    · (intro vs w2 hS hd; simp [Region.binds, Fact.at] at hd; simp only [fill, List.take_succ_cons, List.take_zero, Act.put, List.setIfInBounds_toArray, List.set_cons_zero, List.set_cons_succ, Nat.reduceAdd])
      simp only [hd]
      go_wp2_with (first
        | (go_at_call 37; refine (sameFault_calls ((0 : Int)) c _).mono ?_; rintro e w3 ⟨rfl, hB⟩)
        | fail)
      exact ⟨rfl, rfl, ⟨hS.1.belowAll hB, below_then hS.2 hS.2.size hB⟩, hB⟩
    · (intro vs w2 hS hd; simp [Region.binds, Fact.at] at hd; simp only [fill, List.take_succ_cons, List.take_zero, Act.put, List.setIfInBounds_toArray, List.set_cons_zero, List.set_cons_succ, Nat.reduceAdd])
      simp only [hd]
      go_wp2_with fail
      exact ⟨rfl, rfl, hS, Below.refl _ _⟩
  · intro vs wq hf hS
    have h4 : vs 4 = .bool ((0 : Int) == c) := hf 4 (by simp)
    simp only [fill, Act.put, List.setIfInBounds_toArray, List.set_cons_zero, List.set_cons_succ, Nat.reduceAdd]
    clear hf
    go_wp2_with fail
    go_ret
    exact ⟨congrArg Ending.returned h4, hS.2⟩
set_option maxHeartbeats 400000 in
set_option maxRecDepth 100000 in
theorem same_err_calls (c : Int) {w : World} {P : Nat → Addr} (h : Errs w P) (k : Nat) (hk : k < 19) : Calls Tryd.prog 30 #[errV (P k), .agg (faultC c false 0).toArray] w fun e w' => e = .returned (.bool (101 + (k : Int) == c)) ∧ Below w.heap.size w w' := by
  obtain ⟨fs, hfs⟩ := undF
  go_enter Tryd.func30, Tryd.ntmps30
  go_wp2_with (first
    | (refine box_blk rfl 53 _ rfl _ rfl (faultC c false 0) rfl ?_; intro g4 w1 hg4 hb4 hB1 hs1; clear hg4 hs1)
    | fail)
  refine wp_region_facts (ix := [[0], [1], [2], [3], [4]]) (S := fun w' => Blk w' g4 53 (faultC c false 0) ∧ Below w.heap.size w w')
    (R := fun w1 w2 => Below w1.heap.size w1 w2)
    (p := fun jO vs w' => match jO with
      | 0 => vs 0 = errV (P k)
      | 1 => vs 1 = .agg (faultC (101 + (k : Int)) false 0).toArray
      | 2 => vs 2 = .agg (faultC c false 0).toArray
      | 3 => vs 3 = .bool (101 + (k : Int) == c)
      | 4 => vs 4 = .bool (101 + (k : Int) == c)
      | _ => True)
    (by kernel_rfl) (by kernel_rfl) ?_ ?_ ?_ ?_
  · exact ⟨hb4.drew, below_drewN hB1 1⟩
  · intro jO vs w1 w2 hR h
    match jO with
    | 0 | 1 | 2 | 3 | 4 => exact h
    | nO + 5 => trivial
  · refine ⟨?_, ?_, ?_, ?_, ?_, trivial⟩
    · (intro vs w2 hS hd; simp [Region.binds, Fact.at] at hd; simp only [fill, List.take_succ_cons, List.take_zero, Act.put, List.setIfInBounds_toArray, List.set_cons_zero, List.set_cons_succ, Nat.reduceAdd])
      try simp only [hd]
      go_wp2_with fail
      exact ⟨rfl, rfl, hS, Below.refl _ _⟩
    · (intro vs w2 hS hd; simp [Region.binds, Fact.at] at hd; simp only [fill, List.take_succ_cons, List.take_zero, Act.put, List.setIfInBounds_toArray, List.set_cons_zero, List.set_cons_succ, Nat.reduceAdd])
      simp only [hd]
      go_wp2_with (first
        | (go_at_call 38; refine (fault_calls (h.below hS.2) k hk).mono ?_; rintro e w3 ⟨rfl, hB⟩)
        | fail)
      exact ⟨rfl, rfl, ⟨hS.1.belowAll hB, below_then hS.2 hS.2.size hB⟩, hB⟩
    · (intro vs w2 hS hd; simp [Region.binds, Fact.at] at hd; simp only [fill, List.take_succ_cons, List.take_zero, Act.put, List.setIfInBounds_toArray, List.set_cons_zero, List.set_cons_succ, Nat.reduceAdd])
      try simp only [hd]
      go_wp2_with (first
        | (refine load_str rfl 53 _ rfl g4 rfl 53 _ hS.1 fs hfs infoF ?_)
        | fail)
      exact ⟨rfl, rfl, hS, Below.refl _ _⟩
    · (intro vs w2 hS hd; simp [Region.binds, Fact.at] at hd; simp only [fill, List.take_succ_cons, List.take_zero, Act.put, List.setIfInBounds_toArray, List.set_cons_zero, List.set_cons_succ, Nat.reduceAdd])
      simp only [hd]
      go_wp2_with (first
        | (go_at_call 37; refine (sameFault_calls (101 + (k : Int)) c _).mono ?_; rintro e w3 ⟨rfl, hB⟩)
        | fail)
      exact ⟨rfl, rfl, ⟨hS.1.belowAll hB, below_then hS.2 hS.2.size hB⟩, hB⟩
    · (intro vs w2 hS hd; simp [Region.binds, Fact.at] at hd; simp only [fill, List.take_succ_cons, List.take_zero, Act.put, List.setIfInBounds_toArray, List.set_cons_zero, List.set_cons_succ, Nat.reduceAdd])
      simp only [hd]
      go_wp2_with fail
      exact ⟨rfl, rfl, hS, Below.refl _ _⟩
  · intro vs wq hf hS
    have h4 : vs 4 = .bool (101 + (k : Int) == c) := hf 4 (by simp)
    simp only [fill, Act.put, List.setIfInBounds_toArray, List.set_cons_zero, List.set_cons_succ, Nat.reduceAdd]
    clear hf
    go_wp2_with fail
    go_ret
    exact ⟨congrArg Ending.returned h4, hS.2⟩
set_option maxHeartbeats 400000 in
theorem is_nil_calls (c : Int) (w : World) : Calls Tryd.prog 19 #[.nilIface, .int .i64 c] w fun e w' => e = .returned (.bool ((0 : Int) == c)) ∧ Below w.heap.size w w' := by
  go_enter Tryd.func19, Tryd.ntmps19
  go_wp2_with (first
    | (go_at_call 31; refine (bare_calls _ _).mono ?_; rintro e w1 ⟨rfl, hB1⟩)
    | (go_at_call 30; refine (same_nil_calls c _).mono ?_; rintro e w2 ⟨rfl, hB2⟩)
    | fail)
  go_ret
  exact ⟨rfl, below_then hB1 hB1.size hB2⟩
set_option maxHeartbeats 400000 in
theorem is_err_calls (c : Int) {w : World} {P : Nat → Addr} (h : Errs w P) (k : Nat) (hk : k < 19) : Calls Tryd.prog 19 #[errV (P k), .int .i64 c] w fun e w' => e = .returned (.bool (101 + (k : Int) == c)) ∧ Below w.heap.size w w' := by
  go_enter Tryd.func19, Tryd.ntmps19
  go_wp2_with (first
    | (go_at_call 31; refine (bare_calls _ _).mono ?_; rintro e w1 ⟨rfl, hB1⟩)
    | (go_at_call 30; refine (same_err_calls c (h.below hB1) k hk).mono ?_; rintro e w2 ⟨rfl, hB2⟩)
    | fail)
  go_ret
  exact ⟨rfl, below_then hB1 hB1.size hB2⟩
end Go.Proofs.YtenjpmegnjdobaaDoor
/- SameBytes, Bytes: lists of bytes held against each other, copied. -/
namespace Go.Proofs.YtenjpmegnjdobaaDoor
open Go.RowKit Go.Cour
theorem ext_rd {xs ys : List Int} (hl : xs.length = ys.length) (h : ∀ i, i < xs.length → rd xs i = rd ys i) : xs = ys := by
  apply List.ext_getElem hl
  intro i h1 h2
  have := h i h1
  simpa [rd, h1, h2] using this
set_option maxHeartbeats 2000000 in
set_option maxRecDepth 100000 in
theorem same_calls (xs ys : List Int) (A B : Option Addr) (c d m n : Nat) (w : World) (hm : m = xs.length) (hn : n = ys.length) (hx : Rd w A .u8 xs) (hy : Rd w B .u8 ys) (hl : xs.length ≤ 1000000000) (hl' : ys.length ≤ 1000000000) :
    Calls Tryd.prog 11 #[.slice A m c, .slice B n d] w fun e w' => e = .returned (.bool (decide (xs = ys))) ∧ ∃ q, w' = w.drewN q := by
  subst hm hn
  by_cases he : xs.length = ys.length
  · have HE := hid he
    have hb : ((xs.length : Int) == (ys.length : Int)) = true := by rw [beq_iff_eq]; omega
    have hb' : (xs.length == ys.length) = true := by rw [beq_iff_eq]; omega
    obtain ⟨n, hnx⟩ : ∃ n, Hd (n = xs.length) := ⟨_, hid rfl⟩
    rw [← show n = ys.length by rw [hnx.out]; exact he] at hl' ⊢
    rw [← hnx.out] at hl ⊢
    have HX := hid hx
    have HY := hid hy
    clear hx hy he hb hb'
    go_enter Tryd.func11, Tryd.ntmps11
    go_wp2
    go_loopg [5] (n + 1) (fun kq v5 wr => ∃ i : Nat, i ≤ n ∧ v5 = .int .i64 i ∧ Hd (kq + i = n + 1) ∧ Hd (∀ j, j < i → rd xs j = rd ys j) ∧ Hd (∃ q, wr = w.drewN q))
    case atStart => exact ⟨0, by omega, rfl, hid (by omega), hid (by intro j hj; omega), hid ⟨0, rfl⟩⟩
    case round =>
      obtain ⟨i, hi, rfl, hq, hs, hw⟩ := hrel
      obtain ⟨q, rfl⟩ := hw.out
      by_cases hlt : i < n
      · obtain ⟨g, o, rfl⟩ := HX.out.at (by rw [← hnx.out]; omega)
        obtain ⟨g', o', rfl⟩ := HY.out.at (by rw [← HE.out, ← hnx.out]; omega)
        have cx := HX.out.cellAt i (by rw [← hnx.out]; omega)
        have cy := HY.out.cellAt i (by rw [← HE.out, ← hnx.out]; omega)
        have a1 : (i : Int) < n := by omega
        obtain ⟨x, hx⟩ : ∃ x, Hd (x = rd xs i) := ⟨_, hid rfl⟩
        obtain ⟨y, hy⟩ : ∃ y, Hd (y = rd ys i) := ⟨_, hid rfl⟩
        rw [← hx.out] at cx
        rw [← hy.out] at cy
        by_cases hxy : x = y
        · have hb : (x == y) = true := by rw [beq_iff_eq]; exact hxy
          have HXY := hid hxy
          clear hxy
          go_wp2
          go_quiet (fail)
          go_wp2
          go_roundg (gk - 1)
          case measure => have := hq.out; omega
          case rel =>
            refine ⟨i + 1, by omega, by go_num, hid (by have := hq.out; omega), hid ?_, hid ⟨_, rfl⟩⟩
            intro j hj
            by_cases hji : j = i
            · subst hji; rw [← hx.out, ← hy.out]; exact HXY.out
            · exact hs.out j (by omega)
        · have hb : (x == y) = false := by rw [beq_eq_false_iff_ne]; exact hxy
          have HXY := hid hxy
          clear hxy
          go_wp2
          go_quiet (fail)
          go_wp2
          go_ret
          have hd : decide (xs = ys) = false := decide_eq_false (fun h => HXY.out (by rw [hx.out, hy.out, h]))
          rw [hd]
          exact ⟨rfl, _, rfl⟩
      · obtain rfl : i = n := by omega
        go_wp2
        go_ret
        have hd : decide (xs = ys) = true := decide_eq_true (ext_rd HE.out (fun j hj => hs.out j (by rw [hnx.out]; exact hj)))
        rw [hd]
        exact ⟨rfl, _, rfl⟩
  · have hb : ((xs.length : Int) == (ys.length : Int)) = false := by rw [beq_eq_false_iff_ne]; omega
    have hb' : (xs.length == ys.length) = false := by rw [beq_eq_false_iff_ne]; omega
    have HE := hid he
    clear he
    go_enter Tryd.func11, Tryd.ntmps11
    go_wp2
    go_ret
    have hd : decide (xs = ys) = false := decide_eq_false (fun h => HE.out (by rw [h]))
    rw [hd]
    exact ⟨rfl, 0, rfl⟩
end Go.Proofs.YtenjpmegnjdobaaDoor
/- mac.Equal: lists of bytes held against each other. -/
namespace Go.Proofs.YtenjpmegnjdobaaDoor
open Go.RowKit Go.Cour
theorem bits_or_u8_nat (a b : Nat) (ha : a < 256) (hb : b < 256) : bits .or .u8 (a : Int) (b : Int) = ((a ||| b : Nat) : Int) := by
  have hx : a ||| b < 2 ^ 8 := Nat.or_lt_two_pow (by omega) (by omega)
  have h1 : (BitVec.ofInt 8 (a : Int)).toNat = a := by
    rw [BitVec.ofInt_natCast, BitVec.toNat_ofNat]; exact Nat.mod_eq_of_lt (by omega)
  have h2 : (BitVec.ofInt 8 (b : Int)).toNat = b := by
    rw [BitVec.ofInt_natCast, BitVec.toNat_ofNat]; exact Nat.mod_eq_of_lt (by omega)
  show IntKind.u8.wrap ((BitVec.ofInt 8 (a : Int) ||| BitVec.ofInt 8 (b : Int)).toNat : Int) = _
  rw [BitVec.toNat_or, h1, h2, IntKind.wrap_u8]
  omega
theorem bits_xor_u8_nat (a b : Nat) (ha : a < 256) (hb : b < 256) : bits .xor .u8 (a : Int) (b : Int) = ((a ^^^ b : Nat) : Int) := by
  have hx : a ^^^ b < 2 ^ 8 := Nat.xor_lt_two_pow (by omega) (by omega)
  have h1 : (BitVec.ofInt 8 (a : Int)).toNat = a := by
    rw [BitVec.ofInt_natCast, BitVec.toNat_ofNat]; exact Nat.mod_eq_of_lt (by omega)
  have h2 : (BitVec.ofInt 8 (b : Int)).toNat = b := by
    rw [BitVec.ofInt_natCast, BitVec.toNat_ofNat]; exact Nat.mod_eq_of_lt (by omega)
  show IntKind.u8.wrap ((BitVec.ofInt 8 (a : Int) ^^^ BitVec.ofInt 8 (b : Int)).toNat : Int) = _
  rw [BitVec.toNat_xor, h1, h2, IntKind.wrap_u8]
  omega
theorem xor_u8_bound (x y : Int) (hx : 0 ≤ x ∧ x < 256) (hy : 0 ≤ y ∧ y < 256) : 0 ≤ bits .xor .u8 x y ∧ bits .xor .u8 x y < 256 := by
  obtain ⟨a, rfl⟩ : ∃ a : Nat, x = (a : Int) := ⟨x.toNat, by omega⟩
  obtain ⟨b, rfl⟩ : ∃ b : Nat, y = (b : Int) := ⟨y.toNat, by omega⟩
  rw [bits_xor_u8_nat a b (by omega) (by omega)]
  have : a ^^^ b < 2 ^ 8 := Nat.xor_lt_two_pow (by omega) (by omega)
  omega
theorem xor_u8_zero (x y : Int) (hx : 0 ≤ x ∧ x < 256) (hy : 0 ≤ y ∧ y < 256) : bits .xor .u8 x y = 0 ↔ x = y := by
  obtain ⟨a, rfl⟩ : ∃ a : Nat, x = (a : Int) := ⟨x.toNat, by omega⟩
  obtain ⟨b, rfl⟩ : ∃ b : Nat, y = (b : Int) := ⟨y.toNat, by omega⟩
  rw [bits_xor_u8_nat a b (by omega) (by omega)]
  have h : a ^^^ b = 0 ↔ a = b := by
    constructor
    · intro h
      have h2 : a ^^^ (a ^^^ b) = a ^^^ 0 := by rw [h]
      rw [← Nat.xor_assoc, Nat.xor_self, Nat.zero_xor, Nat.xor_zero] at h2
      exact h2.symm
    · rintro rfl; exact Nat.xor_self _
  omega
theorem or_u8_zero (x y : Int) (hx : 0 ≤ x ∧ x < 256) (hy : 0 ≤ y ∧ y < 256) : (0 ≤ bits .or .u8 x y ∧ bits .or .u8 x y < 256) ∧ (bits .or .u8 x y = 0 ↔ x = 0 ∧ y = 0) := by
  obtain ⟨a, rfl⟩ : ∃ a : Nat, x = (a : Int) := ⟨x.toNat, by omega⟩
  obtain ⟨b, rfl⟩ : ∃ b : Nat, y = (b : Int) := ⟨y.toNat, by omega⟩
  rw [bits_or_u8_nat a b (by omega) (by omega)]
  have h1 : a ||| b < 2 ^ 8 := Nat.or_lt_two_pow (by omega) (by omega)
  have h : a ||| b = 0 ↔ a = 0 ∧ b = 0 := Nat.or_eq_zero_iff
  omega
set_option maxHeartbeats 1000000 in
set_option maxRecDepth 100000 in
theorem equal_calls (xs ys : List Int) (A B : Option Addr) (c d m n : Nat) (w : World) (hm : m = xs.length) (hn : n = ys.length) (hx : Rd w A .u8 xs) (hy : Rd w B .u8 ys) (hl : m ≤ 1000000000) (hl' : n ≤ 1000000000) (rx : bytesOk xs) (ry : bytesOk ys) :
    Calls Tryd.prog 36 #[.slice A m c, .slice B n d] w fun e w' => e = .returned (.bool (decide (xs = ys))) ∧ ∃ q, w' = w.drewN q := by
  have HM := hid hm
  have HN := hid hn
  have HX := hid hx
  have HY := hid hy
  clear hm hn hx hy
  by_cases he : m = n
  · subst he
    have hne : ((m : Int) != (m : Int)) = false := by simp
    go_enter Tryd.func36, Tryd.ntmps36
    go_wp2_with fail
    go_loopg [5, 14] m (fun kq v5 v14 wr => ∃ (i : Nat) (D : Int), i ≤ m ∧ v14 = .int .i64 i ∧ v5 = .int .u8 D ∧ Hd (kq + i = m) ∧ Hd (0 ≤ D ∧ D < 256) ∧ Hd (D = 0 ↔ ∀ j, j < i → rd xs j = rd ys j) ∧ Hd (∃ q, wr = w.drewN q))
    case atStart => exact ⟨0, 0, by omega, rfl, rfl, hid (by omega), hid (by omega), hid ⟨fun _ j hj => absurd hj (Nat.not_lt_zero _), fun _ => rfl⟩, hid ⟨0, rfl⟩⟩
    case round =>
      obtain ⟨i, D, hi, rfl, rfl, hq, hD, hs, hw⟩ := hrel
      obtain ⟨q, rfl⟩ := hw.out
      by_cases hlt : i < m
      · obtain ⟨g, o, rfl⟩ := HX.out.at (by rw [← HM.out]; omega)
        obtain ⟨g', o', rfl⟩ := HY.out.at (by rw [← HN.out]; omega)
        have cx := HX.out.cellAt i (by rw [← HM.out]; omega)
        have cy := HY.out.cellAt i (by rw [← HN.out]; omega)
        have a1 : (i : Int) < m := by omega
        obtain ⟨x, hx⟩ : ∃ x, Hd (x = rd xs i) := ⟨_, hid rfl⟩
        obtain ⟨y, hy⟩ : ∃ y, Hd (y = rd ys i) := ⟨_, hid rfl⟩
        rw [← hx.out] at cx
        rw [← hy.out] at cy
        have bx : Hd (0 ≤ x ∧ x < 256) := hid (by rw [hx.out]; exact rx i)
        have byy : Hd (0 ≤ y ∧ y < 256) := hid (by rw [hy.out]; exact ry i)
        go_wp2_with fail
        go_quiet (fail)
        go_wp2_with fail
        go_roundg (gk - 1)
        case measure => have := hq.out; omega
        case rel =>
          have hxb := xor_u8_bound x y bx.out byy.out
          have hob := or_u8_zero D _ hD.out hxb
          refine ⟨i + 1, _, by omega, by go_num, rfl, hid (by have := hq.out; omega), hid hob.1, hid ?_, hid ⟨_, rfl⟩⟩
          rw [hob.2, xor_u8_zero x y bx.out byy.out, hs.out, hx.out, hy.out]
          constructor
          · rintro ⟨h1, h2⟩ j hj
            by_cases hji : j = i
            · subst hji; exact h2
            · exact h1 j (by omega)
          · intro h1
            exact ⟨fun j hj => h1 j (by omega), h1 i (by omega)⟩
      · obtain rfl : i = m := by omega
        have hb : (D == 0) = decide (xs = ys) := by
          have h1 : D = 0 ↔ xs = ys := by
            rw [hs.out]
            exact ⟨fun h => ext_rd (by rw [← HM.out, ← HN.out]) (fun j hj => h j (by rw [HM.out]; exact hj)), fun h j _ => by rw [h]⟩
          rw [Bool.eq_iff_iff, beq_iff_eq, decide_eq_true_iff]
          exact h1
        go_wp2_with fail
        go_ret
        exact ⟨rfl, _, rfl⟩
  · have hne : ((m : Int) == (n : Int)) = false := by rw [beq_eq_false_iff_ne]; omega
    have hd : Hd (decide (xs = ys) = false) := hid (decide_eq_false (fun h => he (by rw [HM.out, HN.out, h])))
    have hne2 : (m == n) = false := by rw [beq_eq_false_iff_ne]; exact he
    go_enter Tryd.func36, Tryd.ntmps36
    go_wp2_with fail
    go_ret
    rw [hd.out]
    exact ⟨rfl, 0, rfl⟩
end Go.Proofs.YtenjpmegnjdobaaDoor
/- aead.Open. -/
namespace Go.Proofs.YtenjpmegnjdobaaDoor
open Go.RowKit Go.Cour
/-- Two results, each in a slot. -/
theorem results_tmp2 {P : Program} {fn : Func} {p q : Tmp} (h : fn.results = #[.tmp p, .tmp q]) (tmps : Array Value) (w : World) {u v : Value} (hp : tmps.getD p undef = u) (hq : tmps.getD q undef = v) :
    (results fn tmps).run P w = .ok (.tuple #[u, v]) w := by
  have hp' : tmps[p]?.getD undef = u := by simpa using hp
  have hq' : tmps[q]?.getD undef = v := by simpa using hq
  simp [results, h, hp', hq']
theorem bytesOk_set {xs : List Int} (h : bytesOk xs) (i : Nat) (x : Int) (h0 : 0 ≤ x ∧ x < 256) : bytesOk (xs.set i x) := by
  intro j
  rw [rd_set']
  split
  · exact h0
  · exact h j
theorem bytesOk_zeros' (n : Nat) : bytesOk (List.replicate n 0) := by
  intro i
  unfold rd
  rw [List.getD_eq_getElem?_getD, List.getElem?_replicate]
  split <;> simp
theorem outS_ok (l h : Int) (key : List Int) : ∀ n, bytesOk (outS l h key n).1
  | 0 => by rw [outS_zero]; exact bytesOk_zeros' 16
  | n + 1 => by
    rw [outS_succ]
    exact bytesOk_set (outS_ok l h key n) _ _ ⟨Int.emod_nonneg _ (by decide), Int.emod_lt_of_pos _ (by decide)⟩
theorem tagOf_ok (key nonce ad b : List Int) : bytesOk (tagOf key nonce ad b) := outS_ok _ _ _ _
theorem bytesOk_drop {xs : List Int} (h : bytesOk xs) (n : Nat) : bytesOk (xs.drop n) := fun i => by rw [rd_drop]; exact h _
theorem bytesOk_take {xs : List Int} (h : bytesOk xs) (n : Nat) : bytesOk (xs.take n) := fun i => by
  by_cases hi : i < n
  · rw [rd_take _ _ _ hi]; exact h i
  · unfold rd; rw [List.getD_eq_getElem?_getD, List.getElem?_take, if_neg hi]; simp
theorem rd_slice {w : World} {A : Option Addr} {k : IntKind} {xs : List Int} (h : Rd w A k xs) (f : Nat) : Rd w (A.map (·.add f)) k (xs.drop f) := by
  rcases h with h | ⟨g, o, rfl, h⟩
  · exact .inl (by rw [h]; simp)
  · refine .inr ⟨g, o + f, by rw [Option.map_some, add_lit], fun i hi => ?_⟩
    rw [rd_drop, Nat.add_assoc]
    exact h _ (by rw [List.length_drop] at hi; omega)
theorem xor_calls' (key nonce xs : List Int) (c : Int) (A : Option Addr) (n cap : Nat) (w : World) (hn : n = xs.length) (hk : key.length = 32) (hnl : nonce.length = 12) (rk : bytesOk key) (rn : bytesOk nonce) (hc : 0 ≤ c ∧ c < 4294967296)
    (hr : Rd w A .u8 xs) (hl : xs.length ≤ 1000000) :
    Calls Tryd.prog 32 #[.agg (ints .u8 key).toArray, .int .u32 c, .agg (ints .u8 nonce).toArray, .slice A n cap] w fun e w' =>
      ∃ g, e = .returned (.slice (some ⟨g, 0, none⟩) n n) ∧ w.heap.size ≤ g ∧ Blk w' g 5 (ints .u8 (xorStream key c nonce xs)) ∧ Below w.heap.size w w' := by
  subst hn
  exact xor_calls key nonce xs c A cap w hk hnl rk rn hc hr hl
/-- What a seal opens to; or why not (2: too short, 8: another tag). -/
def openOf (key nonce ad b : List Int) : List Int ⊕ Nat :=
  if b.length < 16 then .inr 2
  else if tagOf key nonce ad (b.take (b.length - 16)) = b.drop (b.length - 16) then .inl (xorStream key 1 nonce (b.take (b.length - 16)))
  else .inr 8
/-- Two results: bytes, an error. -/
def Opened (w' : World) (base : Nat) (P : Nat → Addr) (r : List Int ⊕ Nat) (v er : Value) : Prop := match r with
  | .inl xs => er = .nilIface ∧ Own w' base 5 .u8 v xs
  | .inr k => er = errV (P k) ∧ v = .slice none 0 0
set_option maxHeartbeats 1000000 in
set_option maxRecDepth 100000 in
theorem open_calls (key nonce ad b : List Int) (A A' : Option Addr) (c c' n n' : Nat) {w : World} {P : Nat → Addr} (hE : Errs2 w P) (hk : key.length = 32) (hnl : nonce.length = 12) (rk : bytesOk key) (rn : bytesOk nonce)
    (hn : n = ad.length) (hA : A = none → c = 0) (hr : Rd w A .u8 ad) (hn' : n' = b.length) (hc' : n' ≤ c') (hr' : Rd w A' .u8 b) (rb : bytesOk b) (hla : ad.length ≤ 100000) (hlb : b.length ≤ 100000) :
    Calls Tryd.prog 28 #[.agg (ints .u8 key).toArray, .agg (ints .u8 nonce).toArray, .slice A n c, .slice A' n' c'] w fun e w' => ∃ v er, e = .returned (.tuple #[v, er]) ∧ Opened w' w.heap.size P (openOf key nonce ad b) v er ∧ Below w.heap.size w w' := by
  have HN := hid hn
  have HN' := hid hn'
  have HR := hid hr
  have HR' := hid hr'
  rw [← hn'] at hlb
  clear hn hn' hr hr'
  by_cases hs : n' < 16
  · have hop : Hd (openOf key nonce ad b = .inr 2) := hid (by rw [openOf, if_pos (by rw [← HN'.out]; exact hs)])
    rw [hop.out]
    have hs1 : (n' : Int) < 16 := by omega
    go_enter Tryd.func28, Tryd.ntmps28
    go_wp2_with (first
      | (refine box_blk rfl 23 _ rfl _ rfl (ints .u8 key) rfl ?_; intro g4 w1 hg4 hb4 hB1 hs1)
      | (refine box_blk rfl 47 _ rfl _ rfl (ints .u8 nonce) rfl ?_; intro g5 w2 hg5 hb5 hB2 hs2
         have hB := below_then hB1 hB1.size hB2
         have hc0 := (hE.below hB).1
         clear hg4 hg5 hs1 hs2)
      | fail)
    go_quiet (fail)
    go_wp2_with fail
    refine bodyPost_ret (results_tmp2 rfl _ _ rfl rfl) rfl ?_
    exact ⟨_, _, rfl, ⟨rfl, rfl⟩, below_drewN hB _⟩
  · obtain ⟨k, hk16⟩ : ∃ k : Nat, n' = k + 16 := ⟨n' - 16, by omega⟩
    have hk16' : Hd (n' = k + 16) := hid hk16
    have hs1 : ¬ (n' : Int) < 16 := by omega
    obtain ⟨g, o, hA'⟩ := HR'.out.at (by rw [← HN'.out]; omega)
    subst hA'
    obtain ⟨cs, hcs⟩ : ∃ cs, Hd (b.take k = cs) := ⟨_, ⟨rfl⟩⟩
    obtain ⟨ls, hls⟩ : ∃ ls, Hd (b.drop k = ls) := ⟨_, ⟨rfl⟩⟩
    have hcl : Hd (k = cs.length) := hid (by rw [← hcs.out, List.length_take, ← HN'.out]; omega)
    have hll : Hd (16 = ls.length) := hid (by rw [← hls.out, List.length_drop, ← HN'.out]; omega)
    have hrc : Hd (Rd w (some ⟨g, o, none⟩) .u8 cs) := hid (by rw [← hcs.out]; exact HR'.out.take k)
    have hrl : Hd (Rd w (some ⟨g, o + k, none⟩) .u8 ls) := hid (by
      have := rd_slice HR'.out k
      rw [Option.map_some, add_lit, hls.out] at this
      exact this)
    have rl : bytesOk ls := by rw [← hls.out]; exact bytesOk_drop rb k
    have w1f : (n' : Int) - 16 = (k : Int) := by omega
    have hck : ¬ c' = k := by omega
    have hop : Hd (openOf key nonce ad b = if tagOf key nonce ad cs = ls then .inl (xorStream key 1 nonce cs) else .inr 8) := hid (by
      rw [openOf, if_neg (by rw [← HN'.out]; omega)]
      have e : b.length - 16 = k := by rw [← HN'.out]; omega
      rw [e, hcs.out, hls.out])
    have hkn : (k : Int) ≤ (n' : Int) := by omega
    clear hk16
    go_enter Tryd.func28, Tryd.ntmps28
    go_wp2_with (first
      | (refine box_blk rfl 23 _ rfl _ rfl (ints .u8 key) rfl ?_; intro g4 w1 hg4 hb4 hB1 hs1)
      | (refine box_blk rfl 47 _ rfl _ rfl (ints .u8 nonce) rfl ?_; intro g5 w2 hg5 hb5 hB2 hs2
         have hB := below_then hB1 hB1.size hB2
         have hb4' := hb4.belowAll hB2
         have hEB := hE.below hB
         clear hg4 hg5 hs1 hs2)
      | fail)
    go_quiet (fail)
    generalize hW3 : World.drewN w2 _ = w3
    have hB3 : Below w.heap.size w w3 := by rw [← hW3]; exact below_drewN hB _
    have hb4'' : Blk w3 g4 23 (ints .u8 key) := by rw [← hW3]; exact hb4'.drewN _
    have hb5'' : Blk w3 g5 47 (ints .u8 nonce) := by rw [← hW3]; exact hb5.drewN _
    clear hW3 hb4' hb5 hB1 hB2 hB hEB hb4
    have e16 : n' - k = 16 := by have := hk16'.out; omega
    have htl := tagOf_length key nonce ad cs
    have hto := tagOf_ok key nonce ad cs
    obtain ⟨T, hT⟩ : ∃ T, Hd (tagOf key nonce ad cs = T) := ⟨_, ⟨rfl⟩⟩
    rw [hT.out] at htl hto hop
    have htl := hid htl
    by_cases hte : T = ls
    · have hdt := hid (decide_eq_true hte)
      have hop2 : Hd (openOf key nonce ad b = .inl (xorStream key 1 nonce cs)) := hid (by rw [hop.out, if_pos hte])
      clear hte hop
      go_wp2_with (first
        | (refine load_blk rfl 23 _ rfl g4 rfl 23 _ hb4x 32 5 arr23 (by simp [ints, hk]) info23 ?_)
        | (refine load_blk rfl 47 _ rfl g5 rfl 47 _ hb5x 12 5 arr24 (by simp [ints, hnl]) info24 ?_)
        | (refine load_blk rfl 23 _ rfl g4 rfl 23 _ hb4'' 32 5 arr23 (by simp [ints, hk]) info23 ?_)
        | (refine load_blk rfl 47 _ rfl g5 rfl 47 _ hb5'' 12 5 arr24 (by simp [ints, hnl]) info24 ?_)
        | (go_at_call 33; refine (tag_calls key nonce ad cs A (some ⟨g, o, none⟩) c c' n k w3 hk hnl rk rn HN.out hA (HR.out.below hB3) hcl.out (by intro h; cases h) (hrc.out.below hB3) hla (by rw [← hcl.out]; omega)).mono ?_
           rintro e w4 ⟨he4, hB4⟩; rw [hT.out] at he4; subst he4)
        | (refine alloc_blk rfl 57 rfl _ rfl (ints .u8 (List.replicate 16 0)) zeroT16 ?_; intro g8 w5 hg8 hb8 hB5 hs5)
        | (refine store_blk rfl 57 _ _ rfl g8 (ints .u8 T) rfl rfl 57 _ hb8 16 infoT16 (by simp [ints, htl.out]) (by simp [ints]) (ints_one _ _) ?_
           have hb8' := hb8.setRow (ints .u8 T)
           have hbw6 := below_setRow (g := g8) hB5 (by omega) (ints .u8 T).toArray
           generalize hW6 : w5.setRow g8 (ints .u8 T).toArray = w6 at *
           have hB46 : Below w3.heap.size w3 w6 := below_then hB4 hB4.size hbw6
           have hB6 := below_then hB3 hB3.size hB46
           clear hg8 hs5 hW6)
        | (go_at_call 36; refine (equal_calls T ls (some ⟨g8, 0, none⟩) (some ⟨g, o + k, none⟩) _ _ 16 _ w6 htl.out.symm (by first | exact hll.out | (rw [← hll.out]; omega)) (Rd.ofBlk hb8') (hrl.out.below hB6) (by omega) (by omega) hto rl).mono ?_
           rintro e w7 ⟨he7, q7, hw7⟩; rw [hdt.out] at he7; subst he7
           have hB8 : Below w.heap.size w w7 := by rw [hw7]; exact below_drewN hB6 q7
           have hB38 : Below w3.heap.size w3 w7 := by rw [hw7]; exact below_drewN hB46 q7
           clear hw7
           have hb4x := hb4''.belowAll hB38
           have hb5x := hb5''.belowAll hB38)
        | (go_at_call 32; refine (xor_calls' key nonce cs 1 (some ⟨g, o, none⟩) k c' w7 hcl.out hk hnl rk rn (by omega) (hrc.out.below hB8) (by rw [← hcl.out]; omega)).mono ?_
           rintro e w8 ⟨gx, rfl, hgx, hbx, hB9⟩)
        | fail)
      refine bodyPost_ret (results_tmp2 rfl _ _ rfl rfl) rfl ?_
      refine ⟨_, _, rfl, ?_, below_then hB8 hB8.size hB9⟩
      rw [hop2.out]
      have hxl := xorStream_length key 1 nonce cs
      have := Own.ofBlk (base := w.heap.size) hbx (by have := hB8.size; omega) (by rw [hxl, ← hcl.out]; unfold maxLen; omega)
      rw [hxl, ← hcl.out] at this
      exact ⟨rfl, this⟩
    · have hdf := hid (decide_eq_false hte)
      have hop2 : Hd (openOf key nonce ad b = .inr 8) := hid (by rw [hop.out, if_neg hte])
      clear hte hop
      go_wp2_with (first
        | (refine load_blk rfl 23 _ rfl g4 rfl 23 _ hb4'' 32 5 arr23 (by simp [ints, hk]) info23 ?_)
        | (refine load_blk rfl 47 _ rfl g5 rfl 47 _ hb5'' 12 5 arr24 (by simp [ints, hnl]) info24 ?_)
        | (go_at_call 33; refine (tag_calls key nonce ad cs A (some ⟨g, o, none⟩) c c' n k w3 hk hnl rk rn HN.out hA (HR.out.below hB3) hcl.out (by intro h; cases h) (hrc.out.below hB3) hla (by rw [← hcl.out]; omega)).mono ?_
           rintro e w4 ⟨he4, hB4⟩; rw [hT.out] at he4; subst he4)
        | (refine alloc_blk rfl 57 rfl _ rfl (ints .u8 (List.replicate 16 0)) zeroT16 ?_; intro g8 w5 hg8 hb8 hB5 hs5)
        | (refine store_blk rfl 57 _ _ rfl g8 (ints .u8 T) rfl rfl 57 _ hb8 16 infoT16 (by simp [ints, htl.out]) (by simp [ints]) (ints_one _ _) ?_
           have hb8' := hb8.setRow (ints .u8 T)
           have hbw6 := below_setRow (g := g8) hB5 (by omega) (ints .u8 T).toArray
           generalize hW6 : w5.setRow g8 (ints .u8 T).toArray = w6 at *
           have hB46 : Below w3.heap.size w3 w6 := below_then hB4 hB4.size hbw6
           have hB6 := below_then hB3 hB3.size hB46
           clear hg8 hs5 hW6)
        | (go_at_call 36; refine (equal_calls T ls (some ⟨g8, 0, none⟩) (some ⟨g, o + k, none⟩) _ _ 16 _ w6 htl.out.symm (by first | exact hll.out | (rw [← hll.out]; omega)) (Rd.ofBlk hb8') (hrl.out.below hB6) (by omega) (by omega) hto rl).mono ?_
           rintro e w7 ⟨he7, q7, hw7⟩; rw [hdf.out] at he7; subst he7; subst hw7)
        | fail)
      have hc1 := (hE.below hB6).2
      go_quiet (fail)
      go_wp2_with fail
      refine bodyPost_ret (results_tmp2 rfl _ _ rfl rfl) rfl ?_
      refine ⟨_, _, rfl, ?_, below_drewN (below_drewN hB6 _) _⟩
      rw [hop2.out]
      exact ⟨rfl, rfl⟩
end Go.Proofs.YtenjpmegnjdobaaDoor
/- How long a seal is. -/
namespace Go.Proofs.YtenjpmegnjdobaaDoor
open Go.RowKit Go.Cour
theorem sealText_length (key nonce ad b : List Int) : (sealText key nonce ad b).length = b.length + 16 := by
  rw [sealText, List.length_append, xorStream_length, tagOf_length]
end Go.Proofs.YtenjpmegnjdobaaDoor
/- What was sealed is opened as it was. -/
namespace Go.Proofs.YtenjpmegnjdobaaDoor
open Go.RowKit Go.Cour
theorem outTo_ok (s f : List Int) : ∀ n, bytesOk (outTo s f n)
  | 0 => bytesOk_zeros' 64
  | n + 1 => by
    unfold outTo
    rw [foldl_succ]
    exact bytesOk_set (outTo_ok s f n) _ _ ⟨Int.emod_nonneg _ (by decide), Int.emod_lt_of_pos _ (by decide)⟩
theorem block_ok (key : List Int) (c : Int) (nonce : List Int) : bytesOk (block key c nonce) := outTo_ok _ _ _
theorem rd_zeros (n i : Nat) : rd (List.replicate n 0) i = 0 := by
  unfold rd
  rw [List.getD_eq_getElem?_getD, List.getElem?_replicate]
  split <;> rfl
theorem rd_xorTo (key : List Int) (c : Int) (nonce xs : List Int) (i : Nat) (hi : i < xs.length) : ∀ n, n ≤ xs.length → rd (xorTo key c nonce xs n) i = if i < n then xorByte key c nonce xs i else 0
  | 0, _ => by
    rw [if_neg (by omega)]
    exact rd_zeros _ _
  | n + 1, hn => by
    rw [xorTo_succ, rd_set', xorTo_length, rd_xorTo key c nonce xs i hi n (by omega)]
    by_cases h : n = i
    · subst h
      rw [if_pos ⟨rfl, hi⟩, if_pos (by omega)]
    · rw [if_neg (fun h' => h h'.1)]
      by_cases h2 : i < n
      · rw [if_pos h2, if_pos (by omega)]
      · rw [if_neg h2, if_neg (by omega)]
theorem rd_xorStream (key : List Int) (c : Int) (nonce xs : List Int) (i : Nat) (hi : i < xs.length) : rd (xorStream key c nonce xs) i = xorByte key c nonce xs i := by
  rw [xorStream, rd_xorTo key c nonce xs i hi _ (Nat.le_refl _), if_pos hi]
theorem xorStream_ok (key : List Int) (c : Int) (nonce xs : List Int) (h : bytesOk xs) : bytesOk (xorStream key c nonce xs) := by
  intro i
  by_cases hi : i < xs.length
  · rw [rd_xorStream key c nonce xs i hi]
    exact xor_u8_bound _ _ (h i) (block_ok _ _ _ _)
  · unfold rd
    rw [List.getD_eq_getElem?_getD, List.getElem?_eq_none (by rw [xorStream_length]; omega)]
    simp
theorem xor_u8_twice (x y : Int) (hx : 0 ≤ x ∧ x < 256) (hy : 0 ≤ y ∧ y < 256) : bits .xor .u8 (bits .xor .u8 x y) y = x := by
  obtain ⟨a, rfl⟩ : ∃ a : Nat, x = (a : Int) := ⟨x.toNat, by omega⟩
  obtain ⟨b, rfl⟩ : ∃ b : Nat, y = (b : Int) := ⟨y.toNat, by omega⟩
  have h : a ^^^ b < 2 ^ 8 := Nat.xor_lt_two_pow (by omega) (by omega)
  rw [bits_xor_u8_nat a b (by omega) (by omega), bits_xor_u8_nat _ b (by omega) (by omega), Nat.xor_assoc, Nat.xor_self, Nat.xor_zero]
theorem xorStream_twice (key : List Int) (c : Int) (nonce xs : List Int) (h : bytesOk xs) : xorStream key c nonce (xorStream key c nonce xs) = xs := by
  refine ext_rd (by rw [xorStream_length, xorStream_length]) fun i hi => ?_
  rw [xorStream_length, xorStream_length] at hi
  rw [rd_xorStream _ _ _ _ _ (by rw [xorStream_length]; exact hi), xorByte, rd_xorStream key c nonce xs i hi, xorByte]
  exact xor_u8_twice _ _ (h i) (block_ok _ _ _ _)
theorem sealText_ok (key nonce ad b : List Int) (h : bytesOk b) : bytesOk (sealText key nonce ad b) := by
  intro i
  unfold sealText rd
  rw [List.getD_eq_getElem?_getD, List.getElem?_append]
  split
  · rw [← List.getD_eq_getElem?_getD]; exact xorStream_ok key 1 nonce b h i
  · rw [← List.getD_eq_getElem?_getD]; exact tagOf_ok _ _ _ _ _
theorem open_seal (key nonce ad b : List Int) (h : bytesOk b) : openOf key nonce ad (sealText key nonce ad b) = .inl b := by
  have hl := sealText_length key nonce ad b
  have hx := xorStream_length key 1 nonce b
  rw [openOf, if_neg (by omega), hl]
  have e : b.length + 16 - 16 = (xorStream key 1 nonce b).length := by omega
  rw [e, sealText, List.take_left, List.drop_left, if_pos rfl, xorStream_twice key 1 nonce b h]
end Go.Proofs.YtenjpmegnjdobaaDoor
/- stream.Open. -/
namespace Go.Proofs.YtenjpmegnjdobaaDoor
open Go.RowKit Go.Cour
/-- The first result of opening. -/
def OpV (w' : World) (base : Nat) (r : List Int ⊕ Nat) (v : Value) : Prop := match r with
  | .inl xs => Own w' base 5 .u8 v xs
  | .inr _ => v = .slice none 0 0
/-- The second. -/
def OpE (P : Nat → Addr) (r : List Int ⊕ Nat) (er : Value) : Prop := match r with
  | .inl _ => er = .nilIface
  | .inr k => er = errV (P k)
theorem Opened.v {w' : World} {base : Nat} {P : Nat → Addr} {r : List Int ⊕ Nat} {v er : Value} (h : Opened w' base P r v er) : OpV w' base r v := by
  cases r <;> exact h.2
theorem Opened.e {w' : World} {base : Nat} {P : Nat → Addr} {r : List Int ⊕ Nat} {v er : Value} (h : Opened w' base P r v er) : OpE P r er := by
  cases r <;> exact h.1
theorem opened {w' : World} {base : Nat} {P : Nat → Addr} {r : List Int ⊕ Nat} {v er : Value} (h : OpV w' base r v) (k : OpE P r er) : Opened w' base P r v er := by
  cases r <;> exact ⟨k, h⟩
theorem OpV.below {w w' : World} {base : Nat} {r : List Int ⊕ Nat} {v : Value} (h : OpV w base r v) (hb : Below w.heap.size w w') : OpV w' base r v := by
  cases r with
  | inl xs => exact Own.below h hb
  | inr k => exact h
theorem OpV.lower {w : World} {b base : Nat} {r : List Int ⊕ Nat} {v : Value} (h : OpV w base r v) (hb : b ≤ base) : OpV w b r v := by
  cases r with
  | inl xs => exact Own.lower h hb
  | inr k => exact h
set_option maxHeartbeats 400000 in
set_option maxRecDepth 100000 in
theorem sopen_calls (key : List Int) (i : Int) (last : Bool) (b : List Int) (A : Option Addr) (n c : Nat) {w : World} {P : Nat → Addr} (hE : Errs2 w P) (hk : key.length = 32) (rk : bytesOk key) (hi : 0 ≤ i ∧ i < 4294967296)
    (hn : n = b.length) (hc : n ≤ c) (hr : Rd w A .u8 b) (rb : bytesOk b) (hlb : b.length ≤ 100000) :
    Calls Tryd.prog 17 #[.agg (ints .u8 key).toArray, .int .u32 i, .bool last, .slice A n c] w fun e w' => ∃ v er, e = .returned (.tuple #[v, er]) ∧ Opened w' w.heap.size P (openOf key (nonceOf i last) [] b) v er ∧ Below w.heap.size w w' := by
  obtain ⟨r, hr0⟩ : ∃ r, Hd (openOf key (nonceOf i last) [] b = r) := ⟨_, ⟨rfl⟩⟩
  rw [hr0.out]
  have HN := hid hn
  clear hn
  go_enter Tryd.func17, Tryd.ntmps17
  go_wp2_with (first
    | (refine box_blk rfl 23 _ rfl _ rfl (ints .u8 key) rfl ?_; intro g4 w1 hg4 hb4 hB1 hs1; clear hg4 hs1)
    | fail)
  refine wp_region_facts (ix := [[0], [1], [2], [3], [4], [5], [6], [7], [8], [9]]) (S := fun w' => Blk w' g4 23 (ints .u8 key) ∧ Below w.heap.size w w')
    (R := fun w1 w2 => Below w1.heap.size w1 w2)
    (p := fun jO vs w' => match jO with
      | 0 => vs 0 = .agg (ints .u8 key).toArray
      | 1 => vs 1 = .int .u32 i
      | 2 => vs 2 = .bool last
      | 3 => vs 3 = .agg (ints .u8 (nonceOf i last)).toArray
      | 4 => vs 4 = .slice A n c
      | 5 => ∃ v er, vs 5 = .tuple #[v, er] ∧ OpV w' w.heap.size r v ∧ OpE P r er
      | 6 => OpV w' w.heap.size r (vs 6)
      | 7 => OpE P r (vs 7)
      | 8 => OpV w' w.heap.size r (vs 8)
      | 9 => OpE P r (vs 9)
      | _ => True)
    (by kernel_rfl) (by kernel_rfl) ?_ ?_ ?_ ?_
  · exact ⟨hb4.drew, below_drewN hB1 1⟩
  · intro jO vs w1 w2 hR h
    match jO with
    | 0 | 1 | 2 | 3 | 4 | 7 | 9 => exact h
    | 5 => obtain ⟨v, er, h1, h2, h3⟩ := h; exact ⟨v, er, h1, h2.below hR, h3⟩
    | 6 => exact OpV.below h hR
    | 8 => exact OpV.below h hR
    | nO + 10 => trivial
  · refine ⟨?_, ?_, ?_, ?_, ?_, ?_, ?_, ?_, ?_, ?_, trivial⟩
    · (intro vs w2 hS hd; simp [Region.binds, Fact.at] at hd; simp only [fill, List.take_succ_cons, List.take_zero, Act.put, List.setIfInBounds_toArray, List.set_cons_zero, List.set_cons_succ, Nat.reduceAdd])
      try simp only [hd]
      go_wp2_with (first
        | (refine load_blk rfl 23 _ rfl g4 rfl 23 _ hS.1 32 5 arr23 (by simp [ints, hk]) info23 ?_)
        | fail)
      exact ⟨rfl, rfl, hS, Below.refl _ _⟩
    · (intro vs w2 hS hd; simp [Region.binds, Fact.at] at hd; simp only [fill, List.take_succ_cons, List.take_zero, Act.put, List.setIfInBounds_toArray, List.set_cons_zero, List.set_cons_succ, Nat.reduceAdd])
      try simp only [hd]
      go_wp2_with fail
      exact ⟨rfl, rfl, hS, Below.refl _ _⟩
    · (intro vs w2 hS hd; simp [Region.binds, Fact.at] at hd; simp only [fill, List.take_succ_cons, List.take_zero, Act.put, List.setIfInBounds_toArray, List.set_cons_zero, List.set_cons_succ, Nat.reduceAdd])
      try simp only [hd]
      go_wp2_with fail
      exact ⟨rfl, rfl, hS, Below.refl _ _⟩
    · (intro vs w2 hS hd; simp [Region.binds, Fact.at] at hd; simp only [fill, List.take_succ_cons, List.take_zero, Act.put, List.setIfInBounds_toArray, List.set_cons_zero, List.set_cons_succ, Nat.reduceAdd])
      simp only [hd]
      go_wp2_with (first
        | (go_at_call 25; refine (nonce_calls i last w2 hi).mono ?_; rintro e w3 ⟨rfl, hB⟩)
        | fail)
      exact ⟨rfl, rfl, ⟨hS.1.belowAll hB, below_then hS.2 hS.2.size hB⟩, hB⟩
    · (intro vs w2 hS hd; simp [Region.binds, Fact.at] at hd; simp only [fill, List.take_succ_cons, List.take_zero, Act.put, List.setIfInBounds_toArray, List.set_cons_zero, List.set_cons_succ, Nat.reduceAdd])
      try simp only [hd]
      go_wp2_with fail
      exact ⟨rfl, rfl, hS, Below.refl _ _⟩
    · (intro vs w2 hS hd; simp [Region.binds, Fact.at] at hd; simp only [fill, List.take_succ_cons, List.take_zero, Act.put, List.setIfInBounds_toArray, List.set_cons_zero, List.set_cons_succ, Nat.reduceAdd])
      simp only [hd]
      go_wp2_with (first
        | (go_at_call 28; refine (open_calls key (nonceOf i last) [] b none A 0 c 0 n (hE.below hS.2) hk (nonceOf_length _ _) rk (nonceOf_ok i last hi) rfl (fun _ => rfl) (Rd.nil _ _ _) HN.out hc (hr.below hS.2) rb (by simp) hlb).mono ?_; rintro e w3 ⟨v, er, rfl, hop, hB⟩; rw [hr0.out] at hop)
        | fail)
      exact ⟨rfl, ⟨v, er, rfl, hop.v.lower hS.2.size, hop.e⟩, ⟨hS.1.belowAll hB, below_then hS.2 hS.2.size hB⟩, hB⟩
    · (intro vs w2 hS hd; simp [Region.binds, Fact.at] at hd; simp only [fill, List.take_succ_cons, List.take_zero, Act.put, List.setIfInBounds_toArray, List.set_cons_zero, List.set_cons_succ, Nat.reduceAdd])
      obtain ⟨v, er, h1, h2, h3⟩ := hd
      simp only [h1]
      go_wp2_with fail
      exact ⟨rfl, h2, hS, Below.refl _ _⟩
    · (intro vs w2 hS hd; simp [Region.binds, Fact.at] at hd; simp only [fill, List.take_succ_cons, List.take_zero, Act.put, List.setIfInBounds_toArray, List.set_cons_zero, List.set_cons_succ, Nat.reduceAdd])
      obtain ⟨v, er, h1, h2, h3⟩ := hd
      simp only [h1]
      go_wp2_with fail
      exact ⟨rfl, h3, hS, Below.refl _ _⟩
    · (intro vs w2 hS hd; simp [Region.binds, Fact.at] at hd; simp only [fill, List.take_succ_cons, List.take_zero, Act.put, List.setIfInBounds_toArray, List.set_cons_zero, List.set_cons_succ, Nat.reduceAdd])
      go_wp2_with fail
      exact ⟨rfl, hd.1, hS, Below.refl _ _⟩
    · (intro vs w2 hS hd; simp [Region.binds, Fact.at] at hd; simp only [fill, List.take_succ_cons, List.take_zero, Act.put, List.setIfInBounds_toArray, List.set_cons_zero, List.set_cons_succ, Nat.reduceAdd])
      go_wp2_with fail
      exact ⟨rfl, hd.1, hS, Below.refl _ _⟩
  · intro vs wq hf hS
    have h8 : OpV wq w.heap.size r (vs 8) := hf 8 (by simp)
    have h9 : OpE P r (vs 9) := hf 9 (by simp)
    simp only [fill, Act.put, List.setIfInBounds_toArray, List.set_cons_zero, List.set_cons_succ, Nat.reduceAdd]
    clear hf
    go_wp2_with fail
    refine bodyPost_ret (results_tmp2 rfl _ _ rfl rfl) rfl ?_
    exact ⟨_, _, rfl, opened h8 h9, hS.2⟩
end Go.Proofs.YtenjpmegnjdobaaDoor
/- The reference's turn, its quarter of a round. -/
namespace Go.Proofs.YtenjpmegnjdobaaDoor
open Go.RowKit Go.Cour
theorem bits_or_comm (k : IntKind) (x y : Int) : bits .or k x y = bits .or k y x := by
  unfold bits
  simp only [BitVec.or_comm]
theorem rot16_calls (x : Int) (w : World) (h : 0 ≤ x) (h' : x < 4294967296) :
    Calls Tryd.prog 61 #[.int .u32 x, .int .u64 16] w fun e w' => e = .returned (.int .u32 (rotl 16 x)) ∧ w' = w := by
  have hr : bits .or .u32 (x / 65536) (x * 65536 % 4294967296) = rotl 16 x := by rw [bits_or_comm]; rfl
  have hr := hid hr
  go_enter Tryd.func61, Tryd.ntmps61
  go_wp2
  go_ret
  exact ⟨by rw [← hr.out]; rfl, rfl⟩
theorem rot20_calls (x : Int) (w : World) (h : 0 ≤ x) (h' : x < 4294967296) :
    Calls Tryd.prog 61 #[.int .u32 x, .int .u64 20] w fun e w' => e = .returned (.int .u32 (rotl 12 x)) ∧ w' = w := by
  have hr : bits .or .u32 (x / 1048576) (x * 4096 % 4294967296) = rotl 12 x := by rw [bits_or_comm]; rfl
  have hr := hid hr
  go_enter Tryd.func61, Tryd.ntmps61
  go_wp2
  go_ret
  exact ⟨by rw [← hr.out]; rfl, rfl⟩
theorem rot24_calls (x : Int) (w : World) (h : 0 ≤ x) (h' : x < 4294967296) :
    Calls Tryd.prog 61 #[.int .u32 x, .int .u64 24] w fun e w' => e = .returned (.int .u32 (rotl 8 x)) ∧ w' = w := by
  have hr : bits .or .u32 (x / 16777216) (x * 256 % 4294967296) = rotl 8 x := by rw [bits_or_comm]; rfl
  have hr := hid hr
  go_enter Tryd.func61, Tryd.ntmps61
  go_wp2
  go_ret
  exact ⟨by rw [← hr.out]; rfl, rfl⟩
theorem rot25_calls (x : Int) (w : World) (h : 0 ≤ x) (h' : x < 4294967296) :
    Calls Tryd.prog 61 #[.int .u32 x, .int .u64 25] w fun e w' => e = .returned (.int .u32 (rotl 7 x)) ∧ w' = w := by
  have hr : bits .or .u32 (x / 33554432) (x * 128 % 4294967296) = rotl 7 x := by rw [bits_or_comm]; rfl
  have hr := hid hr
  go_enter Tryd.func61, Tryd.ntmps61
  go_wp2
  go_ret
  exact ⟨by rw [← hr.out]; rfl, rfl⟩
theorem zeroA16 : ((Tryd.prog.info? 73).bind (·.zero)).map (·.cells) = some (ints .u32 (List.replicate 16 0)).toArray := by kernel_rfl
set_option maxHeartbeats 4000000 in
set_option maxRecDepth 100000 in
theorem quarter1_calls (a b c d : Nat) (pa pb pc pd : Int) (xs : List Int) (w : World) (hx : xs.length = 16) (ha : a < 16) (hb : b < 16) (hc : c < 16) (hd : d < 16) (hw : words xs) (ea : pa = a) (eb : pb = b) (ec : pc = c) (ed : pd = d) :
    Calls Tryd.prog 54 #[.agg (ints .u32 xs).toArray, .int .i64 pa, .int .i64 pb, .int .i64 pc, .int .i64 pd] w fun e w' => e = .returned (.agg (ints .u32 (quarter xs a b c d)).toArray) ∧ Below w.heap.size w w' := by
  subst ea eb ec ed
  have ia : (a : Int) < 16 := by omega
  have ib : (b : Int) < 16 := by omega
  have ic : (c : Int) < 16 := by omega
  have id : (d : Int) < 16 := by omega
  obtain ⟨x0, HX⟩ : ∃ x, Hd (x = xs) := ⟨xs, hid rfl⟩
  have HL : Hd (x0.length = 16) := hid (by rw [HX.out]; exact hx)
  have HW : Hd (words x0) := hid (by rw [HX.out]; exact hw)
  clear hx hw
  rw [show ints .u32 xs = ints .u32 x0 by rw [HX.out]]
  go_enter Tryd.func54, Tryd.ntmps54
  go_wp2_with (first
    | (refine box_blk rfl 73 _ rfl _ rfl (ints .u32 x0) rfl ?_; intro g v1 hgz hb1 hB1 hs1)
    | (refine alloc_blk rfl 73 rfl _ rfl (ints .u32 (List.replicate 16 0)) zeroA16 ?_; intro g10 w0 hg10 hb10 hB2 hs2)
    | fail)
  have hg := hb1.belowAll hB2
  have hgne : Hd (g10 ≠ g) := hid (by have := hb1.lt; omega)
  have hgw : Hd (w.heap.size ≤ g ∧ w.heap.size ≤ g10) := hid (by have := hB1.size; omega)
  have hBel := below_then hB1 hB1.size hB2
  have HO : Only g w0 w0 := Only.refl g w0
  obtain ⟨wb, HE⟩ : ∃ v, Hd (v = w0) := ⟨w0, hid rfl⟩
  replace hb10 : Blk wb g10 73 (ints .u32 (List.replicate 16 0)) := by rw [HE.out]; exact hb10
  replace hBel : Below w.heap.size w wb := by rw [HE.out]; exact hBel
  replace HO : Only g wb w0 := by rw [HE.out]; exact HO
  clear HE hb1 hB1 hB2 hgz hg10 hs1 hs2
  -- region 0
  have cx := hg.cellI a (by have := HL.out; omega)
  have cy := hg.cellI b (by have := HL.out; omega)
  have fx := hg.frozen a
  refine wp_region_still_tail 9 (by kernel_rfl) (by kernel_rfl) ?_
  simp only [List.take_succ_cons, List.take_zero, List.drop_succ_cons, List.drop_zero]
  change wpStill _ _ (World.drew _) (fun a' => wpList _ _ _ _ a' (World.drew _)) _ _
  repeat still_step
  refine wpStill_nil ?_
  change wpList _ _ _ _ _ _
  go_wp2_with fail
  replace hg : Blk _ g 73 (ints .u32 (qadd x0 a b)) := (hg.setI a ((rd x0 a + rd x0 b) % 4294967296)).drew
  replace HO := (HO.setCell a (.int .u32 ((rd x0 a + rd x0 b) % 4294967296))).drew
  replace HW : Hd (words (qadd x0 a b)) := hid (words_qadd HW.out _ _)
  replace HL : Hd ((qadd x0 a b).length = 16) := hid (by have := HL.out; simpa using this)
  replace HX : Hd (qadd x0 a b = qadd xs a b) := hid (by rw [HX.out])
  clear cx cy fx
  generalize (w0.setCell { block := g, off := a } (.int .u32 ((rd x0 a + rd x0 b) % 4294967296))).drew = w1 at hg HO ⊢
  generalize hx1 : qadd x0 a b = x1 at hg HW HL HX
  clear hx1
  -- region 1
  have cx := hg.cellI d (by have := HL.out; omega)
  have cy := hg.cellI a (by have := HL.out; omega)
  have fx := hg.frozen d
  refine wp_region_still_tail 10 (by kernel_rfl) (by kernel_rfl) ?_
  simp only [List.take_succ_cons, List.take_zero, List.drop_succ_cons, List.drop_zero]
  change wpStill _ _ (World.drew _) (fun a' => wpList _ _ _ _ a' (World.drew _)) _ _
  repeat still_step
  still_call (rot16_calls _ _ (bits_u32_bound _ _ _).1 (bits_u32_bound _ _ _).2)
  repeat still_step
  refine wpStill_nil ?_
  change wpList _ _ _ _ _ _
  go_wp2_with fail
  replace hg : Blk _ g 73 (ints .u32 (qxor 16 x1 d a)) := (hg.setI d (rotl 16 (bits .xor .u32 (rd x1 d) (rd x1 a)))).drew
  replace HO := (HO.setCell d (.int .u32 (rotl 16 (bits .xor .u32 (rd x1 d) (rd x1 a))))).drew
  replace HW : Hd (words (qxor 16 x1 d a)) := hid (words_qxor HW.out _ _ _)
  replace HL : Hd ((qxor 16 x1 d a).length = 16) := hid (by have := HL.out; simpa using this)
  replace HX : Hd (qxor 16 x1 d a = qxor 16 (qadd xs a b) d a) := hid (by rw [HX.out])
  clear cx cy fx
  generalize (w1.setCell { block := g, off := d } (.int .u32 (rotl 16 (bits .xor .u32 (rd x1 d) (rd x1 a))))).drew = w2 at hg HO ⊢
  generalize hx1 : qxor 16 x1 d a = x2 at hg HW HL HX
  clear hx1
  -- region 2
  have cx := hg.cellI c (by have := HL.out; omega)
  have cy := hg.cellI d (by have := HL.out; omega)
  have fx := hg.frozen c
  refine wp_region_still_tail 9 (by kernel_rfl) (by kernel_rfl) ?_
  simp only [List.take_succ_cons, List.take_zero, List.drop_succ_cons, List.drop_zero]
  change wpStill _ _ (World.drew _) (fun a' => wpList _ _ _ _ a' (World.drew _)) _ _
  repeat still_step
  refine wpStill_nil ?_
  change wpList _ _ _ _ _ _
  go_wp2_with fail
  replace hg : Blk _ g 73 (ints .u32 (qadd x2 c d)) := (hg.setI c ((rd x2 c + rd x2 d) % 4294967296)).drew
  replace HO := (HO.setCell c (.int .u32 ((rd x2 c + rd x2 d) % 4294967296))).drew
  replace HW : Hd (words (qadd x2 c d)) := hid (words_qadd HW.out _ _)
  replace HL : Hd ((qadd x2 c d).length = 16) := hid (by have := HL.out; simpa using this)
  replace HX : Hd (qadd x2 c d = qadd (qxor 16 (qadd xs a b) d a) c d) := hid (by rw [HX.out])
  clear cx cy fx
  generalize (w2.setCell { block := g, off := c } (.int .u32 ((rd x2 c + rd x2 d) % 4294967296))).drew = w3 at hg HO ⊢
  generalize hx1 : qadd x2 c d = x3 at hg HW HL HX
  clear hx1
  -- region 3
  have cx := hg.cellI b (by have := HL.out; omega)
  have cy := hg.cellI c (by have := HL.out; omega)
  have fx := hg.frozen b
  refine wp_region_still_tail 10 (by kernel_rfl) (by kernel_rfl) ?_
  simp only [List.take_succ_cons, List.take_zero, List.drop_succ_cons, List.drop_zero]
  change wpStill _ _ (World.drew _) (fun a' => wpList _ _ _ _ a' (World.drew _)) _ _
  repeat still_step
  still_call (rot20_calls _ _ (bits_u32_bound _ _ _).1 (bits_u32_bound _ _ _).2)
  repeat still_step
  refine wpStill_nil ?_
  change wpList _ _ _ _ _ _
  go_wp2_with fail
  replace hg : Blk _ g 73 (ints .u32 (qxor 12 x3 b c)) := (hg.setI b (rotl 12 (bits .xor .u32 (rd x3 b) (rd x3 c)))).drew
  replace HO := (HO.setCell b (.int .u32 (rotl 12 (bits .xor .u32 (rd x3 b) (rd x3 c))))).drew
  replace HW : Hd (words (qxor 12 x3 b c)) := hid (words_qxor HW.out _ _ _)
  replace HL : Hd ((qxor 12 x3 b c).length = 16) := hid (by have := HL.out; simpa using this)
  replace HX : Hd (qxor 12 x3 b c = qxor 12 (qadd (qxor 16 (qadd xs a b) d a) c d) b c) := hid (by rw [HX.out])
  clear cx cy fx
  generalize (w3.setCell { block := g, off := b } (.int .u32 (rotl 12 (bits .xor .u32 (rd x3 b) (rd x3 c))))).drew = w4 at hg HO ⊢
  generalize hx1 : qxor 12 x3 b c = x4 at hg HW HL HX
  clear hx1
  -- region 4
  have cx := hg.cellI a (by have := HL.out; omega)
  have cy := hg.cellI b (by have := HL.out; omega)
  have fx := hg.frozen a
  refine wp_region_still_tail 9 (by kernel_rfl) (by kernel_rfl) ?_
  simp only [List.take_succ_cons, List.take_zero, List.drop_succ_cons, List.drop_zero]
  change wpStill _ _ (World.drew _) (fun a' => wpList _ _ _ _ a' (World.drew _)) _ _
  repeat still_step
  refine wpStill_nil ?_
  change wpList _ _ _ _ _ _
  go_wp2_with fail
  replace hg : Blk _ g 73 (ints .u32 (qadd x4 a b)) := (hg.setI a ((rd x4 a + rd x4 b) % 4294967296)).drew
  replace HO := (HO.setCell a (.int .u32 ((rd x4 a + rd x4 b) % 4294967296))).drew
  replace HW : Hd (words (qadd x4 a b)) := hid (words_qadd HW.out _ _)
  replace HL : Hd ((qadd x4 a b).length = 16) := hid (by have := HL.out; simpa using this)
  replace HX : Hd (qadd x4 a b = qadd (qxor 12 (qadd (qxor 16 (qadd xs a b) d a) c d) b c) a b) := hid (by rw [HX.out])
  clear cx cy fx
  generalize (w4.setCell { block := g, off := a } (.int .u32 ((rd x4 a + rd x4 b) % 4294967296))).drew = w5 at hg HO ⊢
  generalize hx1 : qadd x4 a b = x5 at hg HW HL HX
  clear hx1
  -- region 5
  have cx := hg.cellI d (by have := HL.out; omega)
  have cy := hg.cellI a (by have := HL.out; omega)
  have fx := hg.frozen d
  refine wp_region_still_tail 10 (by kernel_rfl) (by kernel_rfl) ?_
  simp only [List.take_succ_cons, List.take_zero, List.drop_succ_cons, List.drop_zero]
  change wpStill _ _ (World.drew _) (fun a' => wpList _ _ _ _ a' (World.drew _)) _ _
  repeat still_step
  still_call (rot24_calls _ _ (bits_u32_bound _ _ _).1 (bits_u32_bound _ _ _).2)
  repeat still_step
  refine wpStill_nil ?_
  change wpList _ _ _ _ _ _
  go_wp2_with fail
  replace hg : Blk _ g 73 (ints .u32 (qxor 8 x5 d a)) := (hg.setI d (rotl 8 (bits .xor .u32 (rd x5 d) (rd x5 a)))).drew
  replace HO := (HO.setCell d (.int .u32 (rotl 8 (bits .xor .u32 (rd x5 d) (rd x5 a))))).drew
  replace HW : Hd (words (qxor 8 x5 d a)) := hid (words_qxor HW.out _ _ _)
  replace HL : Hd ((qxor 8 x5 d a).length = 16) := hid (by have := HL.out; simpa using this)
  replace HX : Hd (qxor 8 x5 d a = qxor 8 (qadd (qxor 12 (qadd (qxor 16 (qadd xs a b) d a) c d) b c) a b) d a) := hid (by rw [HX.out])
  clear cx cy fx
  generalize (w5.setCell { block := g, off := d } (.int .u32 (rotl 8 (bits .xor .u32 (rd x5 d) (rd x5 a))))).drew = w6 at hg HO ⊢
  generalize hx1 : qxor 8 x5 d a = x6 at hg HW HL HX
  clear hx1
  -- region 6
  have cx := hg.cellI c (by have := HL.out; omega)
  have cy := hg.cellI d (by have := HL.out; omega)
  have fx := hg.frozen c
  refine wp_region_still_tail 9 (by kernel_rfl) (by kernel_rfl) ?_
  simp only [List.take_succ_cons, List.take_zero, List.drop_succ_cons, List.drop_zero]
  change wpStill _ _ (World.drew _) (fun a' => wpList _ _ _ _ a' (World.drew _)) _ _
  repeat still_step
  refine wpStill_nil ?_
  change wpList _ _ _ _ _ _
  go_wp2_with fail
  replace hg : Blk _ g 73 (ints .u32 (qadd x6 c d)) := (hg.setI c ((rd x6 c + rd x6 d) % 4294967296)).drew
  replace HO := (HO.setCell c (.int .u32 ((rd x6 c + rd x6 d) % 4294967296))).drew
  replace HW : Hd (words (qadd x6 c d)) := hid (words_qadd HW.out _ _)
  replace HL : Hd ((qadd x6 c d).length = 16) := hid (by have := HL.out; simpa using this)
  replace HX : Hd (qadd x6 c d = qadd (qxor 8 (qadd (qxor 12 (qadd (qxor 16 (qadd xs a b) d a) c d) b c) a b) d a) c d) := hid (by rw [HX.out])
  clear cx cy fx
  generalize (w6.setCell { block := g, off := c } (.int .u32 ((rd x6 c + rd x6 d) % 4294967296))).drew = w7 at hg HO ⊢
  generalize hx1 : qadd x6 c d = x7 at hg HW HL HX
  clear hx1
  -- region 7
  have cx := hg.cellI b (by have := HL.out; omega)
  have cy := hg.cellI c (by have := HL.out; omega)
  have fx := hg.frozen b
  refine wp_region_still_tail 10 (by kernel_rfl) (by kernel_rfl) ?_
  simp only [List.take_succ_cons, List.take_zero, List.drop_succ_cons, List.drop_zero]
  change wpStill _ _ (World.drew _) (fun a' => wpList _ _ _ _ a' (World.drew _)) _ _
  repeat still_step
  still_call (rot25_calls _ _ (bits_u32_bound _ _ _).1 (bits_u32_bound _ _ _).2)
  repeat still_step
  refine wpStill_nil ?_
  change wpList _ _ _ _ _ _
  have hgL : Blk _ g 73 (ints .u32 (qxor 7 x7 b c)) := (hg.setI b (rotl 7 (bits .xor .u32 (rd x7 b) (rd x7 c)))).drew
  have hbL := hb10.only ((HO.setCell b (.int .u32 (rotl 7 (bits .xor .u32 (rd x7 b) (rd x7 c))))).drew) hgne.out
  have hlL : (ints .u32 (qxor 7 x7 b c)).length = 16 := by have := HL.out; simpa using this
  go_wp2_with (first
    | (refine load_blk rfl 73 _ rfl g rfl 73 _ hgL 16 25 arr65 hlL info65 ?_)
    | (refine store_blk rfl 73 _ _ rfl g10 (ints .u32 (qxor 7 x7 b c)) rfl rfl 73 _ hbL 16 info65 hlL (by simp [ints]) (ints_one _ _) ?_)
    | fail)
  clear hgL hbL hlL
  replace hg : Blk _ g 73 (ints .u32 (qxor 7 x7 b c)) := (hg.setI b (rotl 7 (bits .xor .u32 (rd x7 b) (rd x7 c)))).drew
  replace HO := (HO.setCell b (.int .u32 (rotl 7 (bits .xor .u32 (rd x7 b) (rd x7 c))))).drew
  replace HW : Hd (words (qxor 7 x7 b c)) := hid (words_qxor HW.out _ _ _)
  replace HL : Hd ((qxor 7 x7 b c).length = 16) := hid (by have := HL.out; simpa using this)
  replace HX : Hd (qxor 7 x7 b c = qxor 7 (qadd (qxor 8 (qadd (qxor 12 (qadd (qxor 16 (qadd xs a b) d a) c d) b c) a b) d a) c d) b c) := hid (by rw [HX.out])
  clear cx cy fx
  generalize (w7.setCell { block := g, off := b } (.int .u32 (rotl 7 (bits .xor .u32 (rd x7 b) (rd x7 c))))).drew = w8 at hg HO ⊢
  generalize hx1 : qxor 7 x7 b c = x8 at hg HW HL HX
  clear hx1
  have hb10e := hb10.only HO hgne.out
  have hl8 : (ints .u32 x8).length = 16 := by simpa using HL.out
  refine bodyPost_ret (results_blk rfl _ _ g10 73 _ 16 25 rfl (hb10e.setRow (ints .u32 x8)) arr65 hl8 info65) rfl ?_
  exact ⟨by rw [show quarter xs a b c d = x8 from HX.out.symm], below_setRow (hBel.trans ⟨HO.os, HO.tape, HO.output, by rw [HO.size]; exact Nat.le_refl _, fun k hk => HO.block k (by have := hgw.out; omega)⟩) hgw.out.2 _⟩
end Go.Proofs.YtenjpmegnjdobaaDoor
/- The reference's block of the stream. -/
namespace Go.Proofs.YtenjpmegnjdobaaDoor
open Go.RowKit Go.Cour
set_option maxHeartbeats 1000000 in
set_option maxRecDepth 100000 in
theorem word1_calls (g o c : Nat) (b0 b1 b2 b3 : Int) (w : World)
    (h0 : w.cell? ⟨g, o, none⟩ = some (.int .u8 b0)) (h1 : w.cell? ⟨g, o + 1, none⟩ = some (.int .u8 b1)) (h2 : w.cell? ⟨g, o + 2, none⟩ = some (.int .u8 b2)) (h3 : w.cell? ⟨g, o + 3, none⟩ = some (.int .u8 b3))
    (r0 : 0 ≤ b0 ∧ b0 < 256) (r1 : 0 ≤ b1 ∧ b1 < 256) (r2 : 0 ≤ b2 ∧ b2 < 256) (r3 : 0 ≤ b3 ∧ b3 < 256) :
    Calls Tryd.prog 53 #[.slice (some ⟨g, o, none⟩) 4 c] w fun e w' => e = .returned (.int .u32 (word4 b0 b1 b2 b3)) ∧ ∃ m, w' = w.drewN m := by
  go_enter Tryd.func53, Tryd.ntmps53
  go_wp2
  go_quiet (fail)
  go_wp2
  go_ret
  exact ⟨rfl, _, rfl⟩
theorem word1B_calls (g i c : Nat) (t : TypeId) (xs : List Int) (w : World) (hg : Blk w g t (ints .u8 xs)) (hi : i + 3 < xs.length) (r : bytesOk xs) :
    Calls Tryd.prog 53 #[.slice (some ⟨g, i, none⟩) 4 c] w fun e w' => e = .returned (.int .u32 (wordAt xs i)) ∧ ∃ m, w' = w.drewN m :=
  word1_calls g i c _ _ _ _ w (hg.cellI i (by omega)) (hg.cellI _ (by omega)) (hg.cellI _ (by omega)) (hg.cellI _ (by omega)) (r _) (r _) (r _) (r _)
theorem firstK_ctr (key : List Int) (c : Int) : ∀ n, n ≤ 8 → (firstK key 0 n).set 12 c = firstK key c n
  | 0, _ => rfl
  | n + 1, h => by rw [firstK_succ, firstK_succ, ← firstK_ctr key c n (by omega), List.set_comm _ _ (by omega)]
/-- What the blocks of a call hold. -/
structure RB (w wr : World) (g3 g5 g6 g7 : Nat) (key nonce first : List Int) : Prop where
  k : Blk wr g3 23 (ints .u8 key)
  n : Blk wr g5 47 (ints .u8 nonce)
  r : Blk wr g6 61 (ints .u8 (List.replicate 64 0))
  f : Blk wr g7 73 (ints .u32 first)
  bel : Below w.heap.size w wr
theorem RB.drewN {w wr : World} {g3 g5 g6 g7 : Nat} {key nonce first : List Int} (h : RB w wr g3 g5 g6 g7 key nonce first) (n : Nat) : RB w (wr.drewN n) g3 g5 g6 g7 key nonce first := ⟨h.k.drewN n, h.n.drewN n, h.r.drewN n, h.f.drewN n, below_drewN h.bel n⟩
theorem RB.set {w wr : World} {g3 g5 g6 g7 : Nat} {key nonce first : List Int} (h : RB w wr g3 g5 g6 g7 key nonce first) (h3 : g3 < g7) (h5 : g5 < g7) (h6 : g6 < g7) (hw : w.heap.size ≤ g7) (i : Nat) (x : Int) :
    RB w (wr.setCell ⟨g7, i, none⟩ (.int .u32 x)) g3 g5 g6 g7 key nonce (first.set i x) :=
  ⟨h.k.setOther (by simp; omega) _, h.n.setOther (by simp; omega) _, h.r.setOther (by simp; omega) _, h.f.setI i x, h.bel.setCell (by simp; omega) _⟩
theorem RB.below {w wr wx : World} {g3 g5 g6 g7 : Nat} {key nonce first : List Int} (h : RB w wr g3 g5 g6 g7 key nonce first) (hb : Below wr.heap.size wr wx) : RB w wx g3 g5 g6 g7 key nonce first :=
  ⟨h.k.belowAll hb, h.n.belowAll hb, h.r.belowAll hb, h.f.belowAll hb, below_then h.bel h.bel.size hb⟩
theorem RB.row {w wr : World} {g3 g5 g6 g7 g : Nat} {key nonce first : List Int} (h : RB w wr g3 g5 g6 g7 key nonce first) (h3 : g3 < g) (h5 : g5 < g) (h6 : g6 < g) (h7 : g7 < g) (hw : w.heap.size ≤ g) (cs : Array Value) :
    RB w (wr.setRow g cs) g3 g5 g6 g7 key nonce first :=
  ⟨h.k.setRowOther (by omega) _, h.n.setRowOther (by omega) _, h.r.setRowOther (by omega) _, h.f.setRowOther (by omega) _, below_setRow h.bel hw _⟩
theorem RB.setN {w wr : World} {g3 g5 g6 g7 : Nat} {key nonce first : List Int} (h : RB w wr g3 g5 g6 g7 key nonce first) (h3 : g3 < g7) (h5 : g5 < g7) (h6 : g6 < g7) (hw : w.heap.size ≤ g7) (i : Nat) (x : Int) (m : Nat) :
    RB w ((wr.drewN m).setCell ⟨g7, i, none⟩ (.int .u32 x)) g3 g5 g6 g7 key nonce (first.set i x) := (h.drewN m).set h3 h5 h6 hw i x
theorem sliceKey1 (w : World) (g i : Nat) (h : i < 8) :
    (Instr.sliceAt 23 (.pointer (some ⟨g, 0, none⟩)) (some (.int .i64 (4 * (i : Int)))) (some (.int .i64 (4 * (i : Int) + 4))) none).run Tryd.prog w = .ok (.slice (some ⟨g, 4 * i, none⟩) 4 (32 - 4 * i)) w := by
  have ha : Tryd.prog.arrayLen 23 = 32 := by kernel_rfl
  have hs : (sizeOf (Tryd.prog.elem 23)).run Tryd.prog w = .ok 1 w := by kernel_rfl
  rw [run_sliceAt_array_lh (P := Tryd.prog) w 23 ⟨g, 0, none⟩ (by kernel_rfl) .i64 .i64 _ _ (by omega) (by omega) (by rw [ha]; omega), hs, ha]
  have e1 : (4 * (i : Int)).toNat = 4 * i := by omega
  have e2 : (4 * (i : Int) + 4).toNat = 4 * i + 4 := by omega
  rw [e1, e2]
  simp only [Result.andThen, slicedAt]
  rw [if_neg (by omega), add_lit, Nat.mul_one, Nat.zero_add, show 4 * i + 4 - 4 * i = 4 by omega]
theorem sliceNonce1 (w : World) (g i : Nat) (h : i < 3) :
    (Instr.sliceAt 47 (.pointer (some ⟨g, 0, none⟩)) (some (.int .i64 (4 * (i : Int)))) (some (.int .i64 (4 * (i : Int) + 4))) none).run Tryd.prog w = .ok (.slice (some ⟨g, 4 * i, none⟩) 4 (12 - 4 * i)) w := by
  have ha : Tryd.prog.arrayLen 47 = 12 := by kernel_rfl
  have hs : (sizeOf (Tryd.prog.elem 47)).run Tryd.prog w = .ok 1 w := by kernel_rfl
  rw [run_sliceAt_array_lh (P := Tryd.prog) w 47 ⟨g, 0, none⟩ (by kernel_rfl) .i64 .i64 _ _ (by omega) (by omega) (by rw [ha]; omega), hs, ha]
  have e1 : (4 * (i : Int)).toNat = 4 * i := by omega
  have e2 : (4 * (i : Int) + 4).toNat = 4 * i + 4 := by omega
  rw [e1, e2]
  simp only [Result.andThen, slicedAt]
  rw [if_neg (by omega), add_lit, Nat.mul_one, Nat.zero_add, show 4 * i + 4 - 4 * i = 4 by omega]
/-- What they hold in the rounds. -/
structure RR (w wr : World) (g6 g7 g10 : Nat) (first s : List Int) : Prop where
  r : Blk wr g6 61 (ints .u8 (List.replicate 64 0))
  f : Blk wr g7 73 (ints .u32 first)
  s : Blk wr g10 73 (ints .u32 s)
  bel : Below w.heap.size w wr
theorem RR.next {w wr wx : World} {g6 g7 g10 : Nat} {first s : List Int} (h : RR w wr g6 g7 g10 first s) (hb : Below wr.heap.size wr wx) (hz : w.heap.size ≤ g6 ∧ g6 < g7 ∧ g7 < g10) (s' : List Int) :
    RR w (wx.setRow g10 (ints .u32 s').toArray) g6 g7 g10 first s' :=
  ⟨(h.r.belowAll hb).setRowOther (by omega) _, (h.f.belowAll hb).setRowOther (by omega) _, (h.s.belowAll hb).setRow _, below_setRow (below_then h.bel h.bel.size hb) (by omega) _⟩
/-- What they hold when the bytes are laid. -/
structure RO (w wr : World) (g6 g7 g10 g14 : Nat) (first s out : List Int) : Prop extends RR w wr g6 g7 g10 first s where
  o : Blk wr g14 61 (ints .u8 out)
theorem RO.next {w wr : World} {g6 g7 g10 g14 : Nat} {first s out : List Int} (h : RO w wr g6 g7 g10 g14 first s out) (hz : w.heap.size ≤ g6 ∧ g6 < g7 ∧ g7 < g10 ∧ g10 < g14) (i : Nat) (x : Int) :
    RO w (wr.setCell ⟨g14, i, none⟩ (.int .u8 x)).drew g6 g7 g10 g14 first s (out.set i x) :=
  ⟨⟨(h.r.setOther (by simp; omega) _).drew, (h.f.setOther (by simp; omega) _).drew, (h.s.setOther (by simp; omega) _).drew, (h.bel.setCell (by simp; omega) _).drew⟩, (h.o.setI i x).drew⟩
set_option maxHeartbeats 8000000 in
set_option maxRecDepth 100000 in
theorem block1_calls (key nonce : List Int) (c : Int) (w : World) (hk : key.length = 32) (hn : nonce.length = 12) (rk : bytesOk key) (rn : bytesOk nonce) (hc : 0 ≤ c ∧ c < 4294967296) :
    Calls Tryd.prog 43 #[.agg (ints .u8 key).toArray, .int .u32 c, .agg (ints .u8 nonce).toArray] w fun e w' => e = .returned (.agg (ints .u8 (block key c nonce)).toArray) ∧ Below w.heap.size w w' := by
  have HBL : Hd (outTo (rounds (firstN key c nonce 3) 10) (firstN key c nonce 3) 64 = block key c nonce) := hid rfl
  have HW : Hd (words (firstN key c nonce 3)) := hid (words_firstN key hc nonce 3)
  have HK := hid hk
  have HN := hid hn
  have HC := hid hc
  clear hk hn hc
  go_enter Tryd.func43, Tryd.ntmps43
  go_wp2_with (first
    | (refine box_blk rfl 23 _ rfl _ rfl (ints .u8 key) rfl ?_; intro g3 w1 hg3 hb3 hB1 hs1)
    | (refine box_blk rfl 47 _ rfl _ rfl (ints .u8 nonce) rfl ?_; intro g5 w2 hg5 hb5 hB2 hs2)
    | (refine alloc_blk rfl 61 rfl _ rfl (ints .u8 (List.replicate 64 0)) (by kernel_rfl) ?_; intro g6 w3 hg6 hb6 hB3 hs3)
    | (refine build_to rfl 73 _ rfl (ints .u32 (first0 0)).toArray (by kernel_rfl) ?_)
    | (refine alloc_blk rfl 73 rfl _ rfl (ints .u32 (List.replicate 16 0)) zeroA16 ?_; intro g7 w4 hg7 hb7 hB4 hs4)
    | (refine store_blk rfl 73 _ _ rfl g7 (ints .u32 (first0 0)) rfl rfl 73 _ hb7 16 info65 (by simp [ints, first0]) (by simp [ints]) (ints_one _ _) ?_)
    | fail)
  have hz3 : Hd (w.heap.size ≤ g3 ∧ w.heap.size ≤ g6 ∧ g3 < g5 ∧ g5 < g6 ∧ g6 < g7) := hid (by omega)
  have hR0 : RB w (w4.setRow g7 (ints .u32 (first0 0)).toArray) g3 g5 g6 g7 key nonce (firstK key 0 0) := by
    have hz := hz3.out
    refine ⟨?_, ?_, ?_, hb7.setRow _, below_setRow (below_then (below_then (below_then hB1 hB1.size hB2) (by omega) hB3) (by omega) hB4) (by omega) _⟩
    · exact (((hb3.belowAll hB2).belowAll hB3).belowAll hB4).setRowOther (by omega) _
    · exact ((hb5.belowAll hB3).belowAll hB4).setRowOther (by omega) _
    · exact (hb6.belowAll hB4).setRowOther (by omega) _
  clear hb3 hb5 hb6 hb7 hB1 hB2 hB3 hB4 hg3 hg5 hg6 hg7 hs1 hs2 hs3 hs4
  generalize w4.setRow g7 (ints .u32 (first0 0)).toArray = w5 at *
  go_loopg [8] 9 (fun kq v8 wr => ∃ i : Nat, i ≤ 8 ∧ v8 = .int .i64 i ∧ Hd (kq + i = 9) ∧ RB w wr g3 g5 g6 g7 key nonce (firstK key 0 i))
  case atStart => exact ⟨0, by omega, rfl, hid (by omega), hR0⟩
  case round =>
    clear hR0
    obtain ⟨i, hi, rfl, hq, hS⟩ := hrel
    by_cases hlt : i < 8
    · have hfc := hS.f.cellI (4 + i) (by rw [firstK_length]; omega)
      have hff := hS.f.frozen (4 + i)
      have hsl := sliceKey1 wr g3 i hlt
      have hz := hid hz3.out
      go_wp2_with (first
        | (go_at_call 53; refine (word1B_calls g3 (4 * i) (32 - 4 * i) _ key _ hS.k (by have := HK.out; omega) rk).mono ?_; rintro e w' ⟨rfl, m, rfl⟩; replace hfc : (wr.drewN m).cell? ⟨g7, 4 + i, none⟩ = _ := hfc; replace hff : (wr.drewN m).frozen? ⟨g7, 4 + i, none⟩ = _ := hff)
        | fail)
      go_roundg (gk - 1)
      case measure => have := hq.out; omega
      case rel => exact ⟨i + 1, by omega, by go_num, hid (by have := hq.out; omega), by rw [firstK_succ]; exact hS.setN (by have := hz.out; omega) (by have := hz.out; omega) (by have := hz.out; omega) (by have := hz.out; omega) (4 + i) _ m⟩
    · obtain rfl : i = 8 := by omega
      clear hq hi hlt
      have hfc := hS.f.cellI 12 (by rw [firstK_length]; omega)
      have hff := hS.f.frozen 12
      obtain ⟨hzA, hzB⟩ := hz3.out
      go_wp2_with (fail)
      have hS2 := hS.set (by omega) (by omega) (by omega) (by omega) 12 c
      rw [firstK_ctr key c 8 (by omega)] at hS2
      clear hS hfc hff
      obtain ⟨wo, rfl⟩ : ∃ wo : World, wo = wr := ⟨_, rfl⟩
      generalize wo.setCell ⟨g7, 12, none⟩ (.int .u32 c) = wn at *
      replace hS2 : RB w wn g3 g5 g6 g7 key nonce (firstN key c nonce 0) := hS2
      go_loopg [9] 4 (fun kq v9 wr => ∃ i : Nat, i ≤ 3 ∧ v9 = .int .i64 i ∧ Hd (kq + i = 4) ∧ RB w wr g3 g5 g6 g7 key nonce (firstN key c nonce i))
      case atStart => exact ⟨0, by omega, rfl, hid (by omega), hS2⟩
      case round =>
        clear hS2
        obtain ⟨i, hi, rfl, hq, hS⟩ := hrel
        by_cases hlt : i < 3
        · have hfc := hS.f.cellI (13 + i) (by rw [firstN_length]; omega)
          have hff := hS.f.frozen (13 + i)
          have hsl := sliceNonce1 wr g5 i hlt
          go_wp2_with (first
            | (go_at_call 53; refine (word1B_calls g5 (4 * i) (12 - 4 * i) _ nonce _ hS.n (by have := HN.out; omega) rn).mono ?_; rintro e w' ⟨rfl, m, rfl⟩; replace hfc : (wr.drewN m).cell? ⟨g7, 13 + i, none⟩ = _ := hfc; replace hff : (wr.drewN m).frozen? ⟨g7, 13 + i, none⟩ = _ := hff)
            | fail)
          go_roundg (gk - 1)
          case measure => have := hq.out; omega
          case rel => exact ⟨i + 1, by omega, by go_num, hid (by have := hq.out; omega), by rw [firstN_succ]; exact hS.setN (by omega) (by omega) (by omega) (by omega) (13 + i) _ m⟩
        · obtain rfl : i = 3 := by omega
          clear hq hi hlt
          have hlF : Hd ((ints .u32 (firstN key c nonce 3)).length = 16) := hid (by simpa using firstN_length key c nonce 3)
          have hw3 := HW.out
          generalize firstN key c nonce 3 = F at *
          go_wp2_with (first
            | (refine load_blk rfl 73 _ rfl g7 rfl 73 _ hS.f 16 25 arr65 hlF.out info65 ?_)
            | (refine alloc_blk rfl 73 rfl _ rfl (ints .u32 (List.replicate 16 0)) zeroA16 ?_; intro g10 w10 hg10 hb10 hB10 hs10)
            | (refine store_blk rfl 73 _ _ rfl g10 (ints .u32 F) rfl rfl 73 _ hb10 16 info65 hlF.out (by simp [ints]) (ints_one _ _) ?_)
            | fail)
          have hb7 := hS.f.lt
          have hz : Hd (w.heap.size ≤ g6 ∧ g6 < g7 ∧ g7 < g10) := hid (by omega)
          have hR : RR w (w10.setRow g10 (ints .u32 F).toArray) g6 g7 g10 F F :=
            ⟨(hS.r.belowAll hB10).setRowOther (by omega) _, (hS.f.belowAll hB10).setRowOther (by omega) _, hb10.setRow _, below_setRow (below_then hS.bel hS.bel.size hB10) (by omega) _⟩
          clear hS hb10 hB10 hg10 hs10 hb7 hzA hzB hz3
          have HL3 : Hd (F.length = 16) := hid (by simpa using hlF.out)
          clear hlF
          generalize w10.setRow g10 (ints .u32 F).toArray = w11 at *
          go_loopg [11] 11 (fun kq v11 wr => ∃ i : Nat, i ≤ 10 ∧ v11 = .int .i64 i ∧ Hd (kq + i = 11) ∧ RR w wr g6 g7 g10 F (rounds F i))
          case atStart => exact ⟨0, by omega, rfl, hid (by omega), hR⟩
          case round =>
            clear hR
            obtain ⟨i, hi, rfl, hq, hR⟩ := hrel
            obtain ⟨gk1, hgk⟩ : ∃ g : Nat, Hd (g = gk) := ⟨gk, hid rfl⟩
            by_cases hlt : i < 10
            · have hq1 : Hd (gk1 + i = 11) := hid (by rw [hgk.out]; exact hq.out)
              clear hq
              have hd1 : decide ((i : Int) < 10) = true := by simp; omega
              go_wp2_with (fail)
              obtain ⟨wo1, rfl⟩ : ∃ wo : World, wo = wr := ⟨_, rfl⟩
              go_loopg [12] 5 (fun kq v12 wr => ∃ j : Nat, j ≤ 4 ∧ v12 = .int .i64 j ∧ Hd (kq = 5 - j) ∧ RR w wr g6 g7 g10 F (cols (rounds F i) j))
              case atStart => exact ⟨0, by omega, rfl, hid rfl, by rw [cols_zero]; exact hR⟩
              case round =>
                clear hR
                obtain ⟨j, hj, rfl, hq2, hR⟩ := hrel
                by_cases hjlt : j < 4
                · have hlS : Hd ((cols (rounds F i) j).length = 16) := hid (by rw [cols_length, rounds_length]; exact HL3.out)
                  have hwS : Hd (words (cols (rounds F i) j)) := hid (words_cols (words_rounds hw3 i) j)
                  go_wp2_with (first
                    | (refine load_blk rfl 73 _ rfl g10 rfl 73 _ hR.s 16 25 arr65 (by simpa using hlS.out) info65 ?_)
                    | (go_at_call 54; refine (quarter1_calls j (4 + j) (8 + j) (12 + j) _ _ _ _ (cols (rounds F i) j) _ hlS.out (by omega) (by omega) (by omega) (by omega) hwS.out rfl (by omega) (by omega) (by omega)).mono ?_; rintro e wx ⟨rfl, hbx⟩)
                    | (refine store_blk rfl 73 _ _ rfl g10 (ints .u32 (quarter (cols (rounds F i) j) j (4 + j) (8 + j) (12 + j))) rfl rfl 73 _ (hR.s.belowAll hbx) 16 info65 (by simpa [quarter_length] using hlS.out) (by simpa using hlS.out) (ints_one _ _) ?_)
                    | fail)
                  go_roundg (gk - 1)
                  case measure => have := hq2.out; omega
                  case rel => exact ⟨j + 1, by omega, by go_num, hid (by have := hq2.out; omega), by rw [cols_succ]; exact hR.next hbx hz.out _⟩
                · have hj4 : (j : Int) = 4 := by omega
                  rw [hj4]
                  obtain rfl : j = 4 := by omega
                  clear hq2 hj hjlt hj4
                  go_wp2_with fail
                  obtain ⟨wo2, rfl⟩ : ∃ wo : World, wo = wr := ⟨_, rfl⟩
                  go_loopg [13] 5 (fun kq v13 wr => ∃ j : Nat, j ≤ 4 ∧ v13 = .int .i64 j ∧ Hd (kq = 5 - j) ∧ RR w wr g6 g7 g10 F (diags (cols (rounds F i) 4) j))
                  case atStart => exact ⟨0, by omega, rfl, hid rfl, by rw [diags_zero]; exact hR⟩
                  case round =>
                    clear hR
                    obtain ⟨j, hj, rfl, hq2, hR⟩ := hrel
                    by_cases hjlt : j < 4
                    · have hlS : Hd ((diags (cols (rounds F i) 4) j).length = 16) := hid (by rw [diags_length, cols_length, rounds_length]; exact HL3.out)
                      have hwS : Hd (words (diags (cols (rounds F i) 4) j)) := hid (words_diags (words_cols (words_rounds hw3 i) 4) j)
                      go_wp2_with (first
                        | (refine load_blk rfl 73 _ rfl g10 rfl 73 _ hR.s 16 25 arr65 (by simpa using hlS.out) info65 ?_)
                        | (go_at_call 54; refine (quarter1_calls j (4 + (j + 1) % 4) (8 + (j + 2) % 4) (12 + (j + 3) % 4) _ _ _ _ (diags (cols (rounds F i) 4) j) _ hlS.out (by omega) (by omega) (by omega) (by omega) hwS.out rfl (by omega) (by omega) (by omega)).mono ?_; rintro e wx ⟨rfl, hbx⟩)
                        | (refine store_blk rfl 73 _ _ rfl g10 (ints .u32 (quarter (diags (cols (rounds F i) 4) j) j (4 + (j + 1) % 4) (8 + (j + 2) % 4) (12 + (j + 3) % 4))) rfl rfl 73 _ (hR.s.belowAll hbx) 16 info65 (by simpa [quarter_length] using hlS.out) (by simpa using hlS.out) (ints_one _ _) ?_)
                        | fail)
                      go_roundg (gk - 1)
                      case measure => have := hq2.out; omega
                      case rel => exact ⟨j + 1, by omega, by go_num, hid (by have := hq2.out; omega), by rw [diags_succ]; exact hR.next hbx hz.out _⟩
                    · have hj4 : (j : Int) = 4 := by omega
                      rw [hj4]
                      obtain rfl : j = 4 := by omega
                      clear hq2 hj hjlt hj4
                      go_wp2_with fail
                      go_roundg (gk1 - 1)
                      case measure => have := hq1.out; have := hgk.out; omega
                      case rel => exact ⟨i + 1, by omega, by go_num, hid (by have := hq1.out; have := hgk.out; omega), by rw [rounds_succ]; exact hR⟩
            · obtain rfl : i = 10 := by omega
              clear hq hi hlt
              go_wp2_with (first
                | (refine alloc_blk rfl 61 rfl _ rfl (ints .u8 (List.replicate 64 0)) (by kernel_rfl) ?_; intro g14 w14 hg14 hb14 hB14 hs14)
                | fail)
              have hz : Hd (w.heap.size ≤ g6 ∧ g6 < g7 ∧ g7 < g10 ∧ g10 < g14) := hid (by have := hR.s.lt; have := hz.out; omega)
              have hO : RO w w14 g6 g7 g10 g14 F (rounds F 10) (outTo (rounds F 10) F 0) := ⟨⟨hR.r.belowAll hB14, hR.f.belowAll hB14, hR.s.belowAll hB14, below_then hR.bel hR.bel.size hB14⟩, hb14⟩
              clear hR hb14 hB14 hg14 hs14
              have hlS : (rounds F 10).length = 16 := by rw [rounds_length]; exact HL3.out
              have HLS := hid hlS
              clear hlS hw3 HW
              generalize rounds F 10 = S at hO HBL HLS
              go_loopg [15] 65 (fun kq v15 wr => ∃ i : Nat, i ≤ 64 ∧ v15 = .int .i64 i ∧ Hd (kq = 65 - i) ∧ RO w wr g6 g7 g10 g14 F S (outTo S F i))
              case atStart => exact ⟨0, by omega, rfl, hid rfl, hO⟩
              case round =>
                clear hO
                obtain ⟨i, hi, rfl, hq, hO⟩ := hrel
                by_cases hlt : i < 64
                · obtain ⟨q, r, hqr, hr, hq16⟩ : ∃ q r : Nat, Hd (i = 4 * q + r) ∧ r < 4 ∧ q < 16 := ⟨i / 4, i % 4, hid (by omega), by omega, by omega⟩
                  have cs := hO.s.cellI q (by have := HLS.out; omega)
                  have cf := hO.f.cellI q (by have := HL3.out; omega)
                  have co := hO.o.cellI i (by rw [outTo_length]; omega)
                  have fo := hO.o.frozen i
                  go_wp2_with fail
                  have a1 : IntKind.i64.wrap ((i : Int) / 4) = (q : Int) := by
                    have := hqr.out
                    rw [IntWalk.i64_in _ (by omega)]
                    omega
                  have a2 : (i : Int).tmod 4 = (r : Int) := by
                    have := hqr.out
                    rw [Int.tmod_eq_emod_of_nonneg (by omega)]
                    omega
                  have a3 : IntKind.i64.wrap (8 * (r : Int)) = 8 * (r : Int) := IntWalk.i64_in _ (by omega)
                  have a4 : 0 ≤ 8 * (r : Int) := by omega
                  have a5 : 8 * (r : Int) ≤ 32 := by omega
                  have a6 : (q : Int) < 16 := by omega
                  have a7 : (i : Int) < 64 := by omega
                  refine wp_region_still_tail 17 (by kernel_rfl) (by kernel_rfl) ?_
                  simp only [List.take_succ_cons, List.take_zero, List.drop_succ_cons, List.drop_zero]
                  change wpStill _ _ (World.drew _) (fun a' => wpList _ _ _ _ a' (World.drew _)) _ _
                  repeat still_step
                  refine wpStill_nil ?_
                  change wpList _ _ _ _ _ _
                  clear a1 a2 a3 a4 a5 a6
                  go_wp2_with fail
                  go_roundg (gk - 1)
                  case measure => have := hq.out; omega
                  case rel =>
                    refine ⟨i + 1, by omega, by go_num, hid (by have := hq.out; omega), ?_⟩
                    have hb := outByte_eq S F i q r hqr.out hr
                    have hn := hO.next hz.out i (outByte S F i)
                    rw [← outTo_succ, hb] at hn
                    rw [show min (8 * r) 32 = 8 * r by omega]
                    exact hn
                · obtain rfl : i = 64 := by omega
                  clear hq hi hlt
                  have hl64 : (ints .u8 (outTo S F 64)).length = 64 := by simpa using outTo_length S F 64
                  go_wp2_with (first
                    | (refine load_blk rfl 61 _ rfl g14 rfl 61 _ hO.o 64 5 arr44 hl64 info44 ?_)
                    | (refine store_blk rfl 61 _ _ rfl g6 _ rfl rfl 61 _ hO.r 64 info44 hl64 (by simp) (ints_one _ _) ?_))
                  refine bodyPost_ret (results_blk rfl _ _ g6 61 _ 64 5 rfl (hO.r.setRow _) arr44 hl64 info44) rfl ?_
                  exact ⟨by rw [HBL.out], below_setRow hO.bel (by have := hz.out; omega) _⟩
end Go.Proofs.YtenjpmegnjdobaaDoor
/- The reference's numbers of seventeen bytes: sums. -/
namespace Go.Proofs.YtenjpmegnjdobaaDoor
open Go.RowKit Go.Cour
/-- A word, as it is kept. -/
def m32 (x : Int) : Int := x % 4294967296
theorem and255w (x : Int) (h0 : 0 ≤ x) (h1 : x < 4294967296) : bits .and .u32 x 255 = x % 256 :=
  bits_mask .u32 32 (by decide) (fun n h0 h1 => by rw [IntKind.wrap_u32]; omega) 8 (by decide) x h0 (by simpa using h1)
theorem and3w (x : Int) (h0 : 0 ≤ x) (h1 : x < 4294967296) : bits .and .u32 x 3 = x % 4 :=
  bits_mask .u32 32 (by decide) (fun n h0 h1 => by rw [IntKind.wrap_u32]; omega) 2 (by decide) x h0 (by simpa using h1)
theorem m32_in (x : Int) : 0 ≤ m32 x ∧ m32 x < 4294967296 := ⟨Int.emod_nonneg _ (by decide), Int.emod_lt_of_pos _ (by decide)⟩
def pstep (c : List Int) (s : List Int × Int) (j : Nat) : List Int × Int := (s.1.set j (m32 (m32 (s.2 + rd s.1 j) + rd c j) % 256), m32 (m32 (s.2 + rd s.1 j) + rd c j) / 256)
def plusS (h c : List Int) (n : Nat) : List Int × Int := (List.range n).foldl (pstep c) (h, 0)
def plus1 (h c : List Int) : List Int := (plusS h c 17).1
theorem plusS_succ (h c : List Int) (n : Nat) : plusS h c (n + 1) = pstep c (plusS h c n) n := foldl_succ _ _ _
theorem plusS_length (h c : List Int) : ∀ n, (plusS h c n).1.length = h.length
  | 0 => rfl
  | n + 1 => by rw [plusS_succ]; simp only [pstep, List.length_set]; exact plusS_length h c n
theorem info88 : (Tryd.prog.info? 87).map (·.size) = some 17 := by kernel_rfl
theorem arr88 : Tryd.prog.underlying 87 = some (.array 17 25) := by kernel_rfl
theorem zeroA17w : ((Tryd.prog.info? 87).bind (·.zero)).map (·.cells) = some (ints .u32 (List.replicate 17 0)).toArray := by kernel_rfl
/-- What the blocks of a call hold. -/
structure PB (w wr : World) (g2 g3 g4 : Nat) (h c : List Int) : Prop where
  h : Blk wr g2 87 (ints .u32 h)
  c : Blk wr g3 87 (ints .u32 c)
  o : Blk wr g4 87 (ints .u32 (List.replicate 17 0))
  bel : Below w.heap.size w wr
theorem PB.set {w wr : World} {g2 g3 g4 : Nat} {h c : List Int} (H : PB w wr g2 g3 g4 h c) (hz : w.heap.size ≤ g2 ∧ g2 < g3 ∧ g3 < g4) (i : Nat) (x : Int) : PB w (wr.setCell ⟨g2, i, none⟩ (.int .u32 x)) g2 g3 g4 (h.set i x) c :=
  ⟨H.h.setI i x, H.c.setOther (by simp; omega) _, H.o.setOther (by simp; omega) _, H.bel.setCell (by simp; omega) _⟩
theorem PB.drewN {w wr : World} {g2 g3 g4 : Nat} {h c : List Int} (H : PB w wr g2 g3 g4 h c) (n : Nat) : PB w (wr.drewN n) g2 g3 g4 h c := ⟨H.h.drewN n, H.c.drewN n, H.o.drewN n, below_drewN H.bel n⟩
theorem PB.next {w wr : World} {g2 g3 g4 : Nat} {h c : List Int} (H : PB w wr g2 g3 g4 h c) (hz : w.heap.size ≤ g2 ∧ g2 < g3 ∧ g3 < g4) (n i : Nat) (x : Int) : PB w ((wr.drewN n).setCell ⟨g2, i, none⟩ (.int .u32 x)) g2 g3 g4 (h.set i x) c := (H.drewN n).set hz i x
set_option maxHeartbeats 2000000 in
set_option maxRecDepth 100000 in
theorem plus1_calls (h c : List Int) (w : World) (hh : h.length = 17) (hc : c.length = 17) :
    Calls Tryd.prog 56 #[.agg (ints .u32 h).toArray, .agg (ints .u32 c).toArray] w fun e w' => e = .returned (.agg (ints .u32 (plus1 h c)).toArray) ∧ Below w.heap.size w w' := by
  have HH := hid hh
  have HC := hid hc
  clear hh hc
  go_enter Tryd.func56, Tryd.ntmps56
  go_wp2_with (first
    | (have hx := HH; refine box_blk rfl 87 (.tmp 0) rfl _ rfl (ints .u32 h) rfl ?_; clear hx; intro g2 w1 hg2 hb2 hB1 hs1)
    | (refine box_blk rfl 87 (.tmp 1) rfl _ rfl (ints .u32 c) rfl ?_; intro g3 w2 hg3 hb3 hB2 hs2)
    | (refine alloc_blk rfl 87 rfl _ rfl (ints .u32 (List.replicate 17 0)) zeroA17w ?_; intro g4 w3 hg4 hb4 hB3 hs3)
    | fail)
  have hz : Hd (w.heap.size ≤ g2 ∧ g2 < g3 ∧ g3 < g4) := hid (by omega)
  have hX : PB w w3 g2 g3 g4 h c := ⟨(hb2.belowAll hB2).belowAll hB3, hb3.belowAll hB3, hb4, below_then (below_then hB1 hB1.size hB2) (by omega) hB3⟩
  clear hg2 hb2 hB1 hs1 hg3 hb3 hB2 hs2 hg4 hb4 hB3 hs3
  go_loopg [5, 6] 18 (fun kq v5 v6 wr => ∃ i : Nat, i ≤ 17 ∧ v6 = .int .i64 i ∧ v5 = .int .u32 (plusS h c i).2 ∧ Hd (kq + i = 18) ∧ PB w wr g2 g3 g4 (plusS h c i).1 c)
  case atStart => exact ⟨0, by omega, rfl, rfl, hid (by omega), hX⟩
  case round =>
    clear hX
    obtain ⟨i, hi, rfl, rfl, hgq, hX⟩ := hrel
    have hlen : Hd ((plusS h c i).1.length = 17) := hid (by rw [plusS_length]; exact HH.out)
    by_cases hlt : i < 17
    · have hE : Hd (plusS h c (i + 1) = pstep c (plusS h c i) i) := hid (plusS_succ h c i)
      obtain ⟨S, hS⟩ : ∃ S, Hd (plusS h c i = S) := ⟨_, hid rfl⟩
      rw [hS.out] at hX hlen hE ⊢
      have ch := hX.h.cellI i (by have := hlen.out; omega)
      have cc := hX.c.cellI i (by have := HC.out; omega)
      have fh := hX.h.frozen i
      have a1 : (i : Int) < 17 := by omega
      go_wp2_with fail
      go_quiet (fail)
      obtain ⟨Y, hY⟩ : ∃ Y, Hd (Y = ((S.2 + rd S.1 i) % 4294967296 + rd c i) % 4294967296) := ⟨_, hid rfl⟩
      rw [← hY.out]
      have hYb : 0 ≤ Y ∧ Y < 4294967296 := by rw [hY.out]; exact m32_in _
      have hE2 : Hd (pstep c S i = (S.1.set i (Y % 256), Y / 256)) := hid (by rw [hY.out]; rfl)
      go_wp2_with fail
      go_roundg (gk - 1)
      case measure => have := hgq.out; omega
      case rel =>
        refine ⟨i + 1, by omega, by go_num, ?_, hid (by have := hgq.out; omega), ?_⟩
        · rw [hE.out, hE2.out]
        · rw [hE.out, hE2.out]
          rw [and255w Y hYb.1 hYb.2]
          exact hX.next hz.out nq i (Y % 256)
    · obtain rfl : i = 17 := by omega
      clear hgq hi hlt
      obtain ⟨S, hS⟩ : ∃ S, Hd (plusS h c 17 = S) := ⟨_, hid rfl⟩
      have hP : Hd (plus1 h c = S.1) := hid (by rw [← hS.out]; rfl)
      rw [hS.out] at hX hlen
      have hl17 : (ints .u32 S.1).length = 17 := by simpa using hlen.out
      go_wp2_with (first
        | (refine load_blk rfl 87 _ rfl g2 rfl 87 _ hX.h 17 25 arr88 hl17 info88 ?_)
        | (refine store_blk rfl 87 _ _ rfl g4 (ints .u32 S.1) rfl rfl 87 _ hX.o 17 info88 hl17 (by simp) (ints_one _ _) ?_)
        | fail)
      refine bodyPost_ret (results_blk rfl _ _ g4 87 _ 17 25 rfl (hX.o.setRow _) arr88 hl17 info88) rfl ?_
      exact ⟨by rw [hP.out], below_setRow hX.bel (by have := hz.out; omega) _⟩
end Go.Proofs.YtenjpmegnjdobaaDoor
/- The reference's numbers of seventeen bytes: products. -/
namespace Go.Proofs.YtenjpmegnjdobaaDoor
open Go.RowKit Go.Cour
def termT (h r : List Int) (i j : Nat) : Int := if j ≤ i then m32 (rd h j * rd r (i - j)) else m32 (m32 (rd h j * 320) * rd r (i + 17 - j))
def accT (h r : List Int) (i : Nat) : Nat → Int
  | 0 => 0
  | n + 1 => m32 (accT h r i n + termT h r i n)
def xTo (h r : List Int) (n : Nat) : List Int := (List.range n).foldl (fun s i => s.set i (accT h r i 17)) (List.replicate 17 0)
theorem xTo_succ (h r : List Int) (n : Nat) : xTo h r (n + 1) = (xTo h r n).set n (accT h r n 17) := foldl_succ _ _ _
theorem xTo_length (h r : List Int) : ∀ n, (xTo h r n).length = 17
  | 0 => by simp [xTo]
  | n + 1 => by rw [xTo_succ, List.length_set]; exact xTo_length h r n
theorem rd_xTo (h r : List Int) (i : Nat) : ∀ n, rd (xTo h r n) i = if i < n ∧ i < 17 then accT h r i 17 else 0
  | 0 => by
    rw [if_neg (by omega)]
    unfold xTo rd
    rw [List.range_zero, List.foldl_nil, List.getD_eq_getElem?_getD, List.getElem?_replicate]
    split <;> rfl
  | n + 1 => by
    rw [xTo_succ, rd_set', xTo_length, rd_xTo h r i n]
    by_cases h1 : n = i
    · subst h1
      by_cases h2 : n < 17
      · rw [if_pos ⟨rfl, h2⟩, if_pos ⟨by omega, h2⟩]
      · rw [if_neg (by omega), if_neg (by omega), if_neg (by omega)]
    · rw [if_neg (by omega)]
      by_cases h2 : i < n ∧ i < 17
      · rw [if_pos h2, if_pos ⟨by omega, h2.2⟩]
      · rw [if_neg h2, if_neg (by omega)]
theorem set_rd (xs : List Int) (i : Nat) (h : i < xs.length) : xs.set i (rd xs i) = xs := by
  apply List.ext_getElem (by simp)
  intro j h1 h2
  rw [List.getElem_set]
  split
  · rename_i he
    subst he
    simp [rd, h]
  · rfl
theorem m32_add (y z : Int) : m32 (y + m32 z) = (y + z) % 4294967296 := by unfold m32; omega
def cstep (s : List Int × Int) (j : Nat) : List Int × Int := (s.1.set j (m32 (s.2 + rd s.1 j) % 256), m32 (s.2 + rd s.1 j) / 256)
def carT (s : List Int × Int) (n : Nat) : List Int × Int := (List.range n).foldl cstep s
theorem carT_succ (s : List Int × Int) (n : Nat) : carT s (n + 1) = cstep (carT s n) n := foldl_succ _ _ _
theorem carT_length (s : List Int × Int) : ∀ n, (carT s n).1.length = s.1.length
  | 0 => rfl
  | n + 1 => by rw [carT_succ]; simp only [cstep, List.length_set]; exact carT_length s n
def midT (s : List Int × Int) : List Int × Int := (s.1.set 16 (m32 (s.2 + rd s.1 16) % 4), m32 (5 * (m32 (s.2 + rd s.1 16) / 4)))
def endT (s : List Int × Int) : List Int := s.1.set 16 (m32 (rd s.1 16 + s.2))
def timesT (h r : List Int) : List Int := endT (carT (midT (carT (xTo h r 17, 0) 16)) 16)
/-- What the blocks of a call hold. -/
structure TB (w wr : World) (g2 g3 g4 g5 : Nat) (h r x : List Int) : Prop where
  h : Blk wr g2 87 (ints .u32 h)
  r : Blk wr g3 87 (ints .u32 r)
  o : Blk wr g4 87 (ints .u32 (List.replicate 17 0))
  x : Blk wr g5 87 (ints .u32 x)
  bel : Below w.heap.size w wr
theorem TB.set {w wr : World} {g2 g3 g4 g5 : Nat} {h r x : List Int} (H : TB w wr g2 g3 g4 g5 h r x) (hz : w.heap.size ≤ g2 ∧ g2 < g3 ∧ g3 < g4 ∧ g4 < g5) (i : Nat) (v : Int) : TB w (wr.setCell ⟨g5, i, none⟩ (.int .u32 v)) g2 g3 g4 g5 h r (x.set i v) :=
  ⟨H.h.setOther (by simp; omega) _, H.r.setOther (by simp; omega) _, H.o.setOther (by simp; omega) _, H.x.setI i v, H.bel.setCell (by simp; omega) _⟩
theorem TB.drew {w wr : World} {g2 g3 g4 g5 : Nat} {h r x : List Int} (H : TB w wr g2 g3 g4 g5 h r x) : TB w wr.drew g2 g3 g4 g5 h r x := ⟨H.h.drew, H.r.drew, H.o.drew, H.x.drew, below_drewN H.bel 1⟩
set_option maxHeartbeats 8000000 in
set_option maxRecDepth 100000 in
theorem times1_calls (h r : List Int) (w : World) (hh : h.length = 17) (hr : r.length = 17) :
    Calls Tryd.prog 55 #[.agg (ints .u32 h).toArray, .agg (ints .u32 r).toArray] w fun e w' => e = .returned (.agg (ints .u32 (timesT h r)).toArray) ∧ Below w.heap.size w w' := by
  have HH := hid hh
  have HR := hid hr
  have HE : Hd (endT (carT (midT (carT (xTo h r 17, 0) 16)) 16) = timesT h r) := hid rfl
  clear hh hr
  go_enter Tryd.func55, Tryd.ntmps55
  go_wp2_with (first
    | (have hx := HH; refine box_blk rfl 87 (.tmp 0) rfl _ rfl (ints .u32 h) rfl ?_; clear hx; intro g2 w1 hg2 hb2 hB1 hs1)
    | (refine box_blk rfl 87 (.tmp 1) rfl _ rfl (ints .u32 r) rfl ?_; intro g3 w2 hg3 hb3 hB2 hs2)
    | (have hx := hb4; refine alloc_blk rfl 87 rfl _ rfl (ints .u32 (List.replicate 17 0)) zeroA17w ?_; clear hx; intro g5 w4 hg5 hb5 hB4 hs4)
    | (refine alloc_blk rfl 87 rfl _ rfl (ints .u32 (List.replicate 17 0)) zeroA17w ?_; intro g4 w3 hg4 hb4 hB3 hs3)
    | fail)
  have hz : Hd (w.heap.size ≤ g2 ∧ g2 < g3 ∧ g3 < g4 ∧ g4 < g5) := hid (by omega)
  have hX : TB w w4 g2 g3 g4 g5 h r (xTo h r 0) := ⟨((hb2.belowAll hB2).belowAll hB3).belowAll hB4, (hb3.belowAll hB3).belowAll hB4, hb4.belowAll hB4, hb5, below_then (below_then (below_then hB1 hB1.size hB2) (by omega) hB3) (by omega) hB4⟩
  clear hg2 hb2 hB1 hs1 hg3 hb3 hB2 hs2 hg4 hb4 hB3 hs3 hg5 hb5 hB4 hs4
  go_loopg [6] 18 (fun kq v6 wr => ∃ i : Nat, i ≤ 17 ∧ v6 = .int .i64 i ∧ Hd (kq + i = 18) ∧ TB w wr g2 g3 g4 g5 h r (xTo h r i))
  case atStart => exact ⟨0, by omega, rfl, hid (by omega), hX⟩
  case round =>
    clear hX
    obtain ⟨i, hi, rfl, hq, hX⟩ := hrel
    obtain ⟨gk1, hgk⟩ : ∃ g : Nat, Hd (g = gk) := ⟨gk, hid rfl⟩
    by_cases hlt : i < 17
    · have hq1 : Hd (gk1 + i = 18) := hid (by rw [hgk.out]; exact hq.out)
      clear hq
      have a1 : (i : Int) < 17 := by omega
      have hd1 : decide ((i : Int) < 17) = true := by simp; omega
      have hs0 : (xTo h r i).set i (accT h r i 0) = xTo h r i := by
        have h0 : rd (xTo h r i) i = 0 := by rw [rd_xTo, if_neg (by omega)]
        have := set_rd (xTo h r i) i (by rw [xTo_length]; omega)
        rw [h0] at this
        exact this
      rw [← hs0] at hX
      clear hs0
      have hE : Hd ((xTo h r i).set i (accT h r i 17) = xTo h r (i + 1)) := hid (xTo_succ h r i).symm
      have hlen : Hd ((xTo h r i).length = 17) := hid (xTo_length h r i)
      generalize xTo h r i = X at hX hE hlen
      go_wp2_with (fail)
      obtain ⟨wo1, rfl⟩ : ∃ wo : World, wo = wr := ⟨_, rfl⟩
      go_loopg [7] 18 (fun kq v7 wr => ∃ j : Nat, j ≤ 17 ∧ v7 = .int .i64 j ∧ Hd (kq + j = 18) ∧ TB w wr g2 g3 g4 g5 h r (X.set i (accT h r i j)))
      case atStart => exact ⟨0, by omega, rfl, hid (by omega), hX⟩
      case round =>
        clear hX
        obtain ⟨j, hj, rfl, hq, hX⟩ := hrel
        by_cases hjlt : j < 17
        · have a2 : (j : Int) < 17 := by omega
          have cx := hX.x.cellI i (by simpa [hlen.out] using hlt)
          have fx := hX.x.frozen i
          have ch := hX.h.cellI j (by have := HH.out; omega)
          have hxe : rd (X.set i (accT h r i j)) i = accT h r i j := by rw [rd_set', if_pos ⟨rfl, by rw [hlen.out]; exact hlt⟩]
          rw [hxe] at cx
          clear hxe
          have hnx : Hd (accT h r i (j + 1) = m32 (accT h r i j + termT h r i j)) := hid rfl
          generalize accT h r i j = Y at *
          obtain ⟨Hj, hHj⟩ : ∃ x, Hd (rd h j = x) := ⟨_, hid rfl⟩
          rw [hHj.out] at ch
          by_cases hle : j ≤ i
          · have a3 : (j : Int) ≤ i := by omega
            have cr := hX.r.cellI (i - j) (by have := HR.out; omega)
            obtain ⟨R, hR⟩ : ∃ x, Hd (rd r (i - j) = x) := ⟨_, hid rfl⟩
            rw [hR.out] at cr
            obtain ⟨d, hdd⟩ : ∃ d, Hd (d = i - j) := ⟨_, hid rfl⟩
            rw [← hdd.out] at cr
            have a4 : (i : Int) - j = d := by have := hdd.out; omega
            have a5 : (d : Int) < 17 := by omega
            have a6 : IntKind.i64.wrap (d : Int) = (d : Int) := IntWalk.i64_in _ (by omega)
            have hte : Hd (termT h r i j = m32 (Hj * R)) := hid (by unfold termT; rw [if_pos hle, hHj.out, hR.out])
            go_wp2_with fail
            refine wp_region_still_tail 15 (by kernel_rfl) (by kernel_rfl) ?_
            simp only [List.take_succ_cons, List.take_zero, List.drop_succ_cons, List.drop_zero]
            change wpStill _ _ (World.drew _) (fun a' => wpList _ _ _ _ a' (World.drew _)) _ _
            repeat still_step
            refine wpStill_nil ?_
            change wpList _ _ _ _ _ _
            go_wp2_with fail
            go_roundg (gk - 1)
            case measure => have := hq.out; omega
            case rel =>
              refine ⟨j + 1, by omega, by go_num, hid (by have := hq.out; omega), ?_⟩
              rw [hnx.out, hte.out]
              rw [m32_add]
              have := (hX.set hz.out i ((Y + Hj * R) % 4294967296)).drew
              rw [List.set_set] at this
              exact this
          · have a3 : ¬ ((j : Int) ≤ i) := by omega
            have cr := hX.r.cellI (i + 17 - j) (by have := HR.out; omega)
            obtain ⟨R, hR⟩ : ∃ x, Hd (rd r (i + 17 - j) = x) := ⟨_, hid rfl⟩
            rw [hR.out] at cr
            obtain ⟨d, hdd⟩ : ∃ d, Hd (d = i + 17 - j) := ⟨_, hid rfl⟩
            rw [← hdd.out] at cr
            have a4 : (i : Int) + 17 - j = d := by have := hdd.out; omega
            have a5 : (d : Int) < 17 := by have := hdd.out; omega
            have a6 : IntKind.i64.wrap (d : Int) = (d : Int) := IntWalk.i64_in _ (by omega)
            have a7 : IntKind.i64.wrap ((i : Int) + 17) = (i : Int) + 17 := IntWalk.i64_in _ (by omega)
            have hte : Hd (termT h r i j = m32 (m32 (Hj * 320) * R)) := hid (by unfold termT; rw [if_neg hle, hHj.out, hR.out])
            go_wp2_with fail
            refine wp_region_still_tail 17 (by kernel_rfl) (by kernel_rfl) ?_
            simp only [List.take_succ_cons, List.take_zero, List.drop_succ_cons, List.drop_zero]
            change wpStill _ _ (World.drew _) (fun a' => wpList _ _ _ _ a' (World.drew _)) _ _
            repeat still_step
            refine wpStill_nil ?_
            change wpList _ _ _ _ _ _
            go_wp2_with fail
            go_roundg (gk - 1)
            case measure => have := hq.out; omega
            case rel =>
              refine ⟨j + 1, by omega, by go_num, hid (by have := hq.out; omega), ?_⟩
              rw [hnx.out, hte.out]
              rw [m32_add]
              have := (hX.set hz.out i ((Y + Hj * 320 % 4294967296 * R) % 4294967296)).drew
              rw [List.set_set] at this
              exact this
        · obtain rfl : j = 17 := by omega
          clear hq hj hjlt
          rw [hE.out] at hX
          go_wp2_with fail
          go_roundg (gk1 - 1)
          case measure => have := hq1.out; have := hgk.out; omega
          case rel => exact ⟨i + 1, by omega, by go_num, hid (by have := hq1.out; have := hgk.out; omega), hX⟩
    · obtain rfl : i = 17 := by omega
      clear hq hi hlt
      go_wp2_with fail
      have hlX : Hd ((xTo h r 17).length = 17) := hid (xTo_length h r 17)
      generalize xTo h r 17 = X at hX HE hlX
      obtain ⟨wo1, rfl⟩ : ∃ wo : World, wo = wr := ⟨_, rfl⟩
      go_loopg [8, 9] 17 (fun kq v8 v9 wr => ∃ j : Nat, j ≤ 16 ∧ v9 = .int .i64 j ∧ v8 = .int .u32 (carT (X, 0) j).2 ∧ Hd (kq + j = 17) ∧ TB w wr g2 g3 g4 g5 h r (carT (X, 0) j).1)
      case atStart => exact ⟨0, by omega, rfl, rfl, hid (by omega), hX⟩
      case round =>
        clear hX
        obtain ⟨j, hj, rfl, rfl, hq, hX⟩ := hrel
        have hlC : Hd ((carT (X, 0) j).1.length = 17) := hid (by rw [carT_length]; exact hlX.out)
        by_cases hjlt : j < 16
        · have hE : Hd (carT (X, 0) (j + 1) = cstep (carT (X, 0) j) j) := hid (carT_succ _ _)
          generalize carT (X, 0) j = S at hX hlC hE ⊢
          have cx := hX.x.cellI j (by have := hlC.out; omega)
          have fx := hX.x.frozen j
          have a1 : (j : Int) < 17 := by omega
          obtain ⟨Y, hY⟩ : ∃ Y, Hd (Y = (S.2 + rd S.1 j) % 4294967296) := ⟨_, hid rfl⟩
          have hYb : 0 ≤ Y ∧ Y < 4294967296 := by rw [hY.out]; exact m32_in _
          have hE2 : Hd (cstep S j = (S.1.set j (Y % 256), Y / 256)) := hid (by rw [hY.out]; rfl)
          go_wp2_with fail
          rw [← hY.out]
          go_roundg (gk - 1)
          case measure => have := hq.out; omega
          case rel =>
            refine ⟨j + 1, by omega, by go_num, ?_, hid (by have := hq.out; omega), ?_⟩
            · rw [hE.out, hE2.out]
            · rw [hE.out, hE2.out]
              rw [and255w Y hYb.1 hYb.2]
              exact hX.set hz.out j (Y % 256)
        · obtain rfl : j = 16 := by omega
          clear hq hj hjlt
          generalize hSe : carT (X, 0) 16 = S at hX hlC HE ⊢
          have cx := hX.x.cellI 16 (by have := hlC.out; omega)
          have fx := hX.x.frozen 16
          obtain ⟨Y, hY⟩ : ∃ Y, Hd (Y = (S.2 + rd S.1 16) % 4294967296) := ⟨_, hid rfl⟩
          have hYb : 0 ≤ Y ∧ Y < 4294967296 := by rw [hY.out]; exact m32_in _
          have hE2 : Hd (midT S = (S.1.set 16 (Y % 4), m32 (5 * (Y / 4)))) := hid (by rw [hY.out]; rfl)
          go_wp2_with fail
          rw [← hY.out, and3w Y hYb.1 hYb.2]
          replace hX := hX.set hz.out 16 (Y % 4)
          generalize hV : (5 * (Y / 4)) % 4294967296 = V
          replace hE2 : Hd (midT S = (S.1.set 16 (Y % 4), V)) := hid (by rw [hE2.out, ← hV]; rfl)
          rw [hE2.out] at HE
          replace hlC : Hd ((S.1.set 16 (Y % 4)).length = 17) := hid (by rw [List.length_set]; exact hlC.out)
          generalize S.1.set 16 (Y % 4) = Z at hX HE hlC
          obtain ⟨wo2, rfl⟩ : ∃ wo : World, wo = wr := ⟨_, rfl⟩
          generalize wo2.setCell ⟨g5, 16, none⟩ (.int .u32 (Y % 4)) = wn at hX ⊢
          go_loopg [8, 10] 17 (fun kq v8 v10 wr => ∃ j : Nat, j ≤ 16 ∧ v10 = .int .i64 j ∧ v8 = .int .u32 (carT (Z, V) j).2 ∧ Hd (kq + j = 17) ∧ TB w wr g2 g3 g4 g5 h r (carT (Z, V) j).1)
          case atStart => exact ⟨0, by omega, rfl, rfl, hid (by omega), hX⟩
          case round =>
            clear hX cx fx hY hYb hE2 hV hSe
            obtain ⟨j, hj, rfl, rfl, hq, hX⟩ := hrel
            have hlD : Hd ((carT (Z, V) j).1.length = 17) := hid (by rw [carT_length]; exact hlC.out)
            by_cases hjlt : j < 16
            · have hE : Hd (carT (Z, V) (j + 1) = cstep (carT (Z, V) j) j) := hid (carT_succ _ _)
              generalize carT (Z, V) j = T at hX hlD hE ⊢
              have cx := hX.x.cellI j (by have := hlD.out; omega)
              have fx := hX.x.frozen j
              have a1 : (j : Int) < 17 := by omega
              obtain ⟨Y1, hY⟩ : ∃ Y, Hd (Y = (T.2 + rd T.1 j) % 4294967296) := ⟨_, hid rfl⟩
              have hYb : 0 ≤ Y1 ∧ Y1 < 4294967296 := by rw [hY.out]; exact m32_in _
              have hE2 : Hd (cstep T j = (T.1.set j (Y1 % 256), Y1 / 256)) := hid (by rw [hY.out]; rfl)
              go_wp2_with fail
              rw [← hY.out]
              go_roundg (gk - 1)
              case measure => have := hq.out; omega
              case rel =>
                refine ⟨j + 1, by omega, by go_num, ?_, hid (by have := hq.out; omega), ?_⟩
                · rw [hE.out, hE2.out]
                · rw [hE.out, hE2.out]
                  rw [and255w Y1 hYb.1 hYb.2]
                  exact hX.set hz.out j (Y1 % 256)
            · obtain rfl : j = 16 := by omega
              clear hq hj hjlt
              generalize hTe : carT (Z, V) 16 = T at hX hlD HE ⊢
              have cx := hX.x.cellI 16 (by have := hlD.out; omega)
              have fx := hX.x.frozen 16
              have hE3 : Hd (timesT h r = T.1.set 16 ((rd T.1 16 + T.2) % 4294967296)) := hid HE.out.symm
              have hX2 := hX.set hz.out 16 ((rd T.1 16 + T.2) % 4294967296)
              have hl17 : Hd ((ints .u32 (T.1.set 16 ((rd T.1 16 + T.2) % 4294967296))).length = 17) := hid (by simpa using hlD.out)
              go_wp2_with (first
                | (refine load_blk rfl 87 _ rfl g5 rfl 87 _ hX2.x 17 25 arr88 hl17.out info88 ?_)
                | (refine store_blk rfl 87 _ _ rfl g4 (ints .u32 (T.1.set 16 ((rd T.1 16 + T.2) % 4294967296))) rfl rfl 87 _ hX2.o 17 info88 hl17.out (by simp) (ints_one _ _) ?_)
                | fail)
              refine bodyPost_ret (results_blk rfl _ _ g4 87 _ 17 25 rfl (hX2.o.setRow _) arr88 hl17.out info88) rfl ?_
              exact ⟨by rw [hE3.out], below_setRow hX2.bel (by have := hz.out; omega) _⟩
end Go.Proofs.YtenjpmegnjdobaaDoor
/- The tag's numbers: five parts as one number: carry, product. -/
namespace Go.Proofs.YtenjpmegnjdobaaDoor
open Go.RowKit Go.Cour
/-- The modulus. -/
def pP : Int := 1361129467683753853853498429727072845819
/-- Five parts of 26 bits as one number. -/
def val5 (a : List Int) : Int := rd a 0 + rd a 1 * 67108864 + rd a 2 * 4503599627370496 + rd a 3 * 302231454903657293676544 + rd a 4 * 20282409603651670423947251286016
theorem u64_in (x : Int) (h : 0 ≤ x ∧ x < 18446744073709551616) : u64 x = x := by
  rw [u64, IntKind.wrap_u64]; omega
theorem list5 (a : List Int) (h : a.length = 5) : a = [rd a 0, rd a 1, rd a 2, rd a 3, rd a 4] := by
  match a, h with
  | [a0, a1, a2, a3, a4], _ => rfl
theorem carry1_0 (x0 x1 x2 x3 x4 o : Int) (h : 0 ≤ x0 + o ∧ x0 + o < 18446744073709551616) : carry1 ([x0, x1, x2, x3, x4], o) 0 = ([(x0 + o) % 67108864, x1, x2, x3, x4], (x0 + o) / 67108864) := by
  have h1 : carry1 ([x0, x1, x2, x3, x4], o) 0 = ([low26 (u64 (x0 + o)), x1, x2, x3, x4], u64 (x0 + o) / 67108864) := rfl
  rw [h1, u64_in _ h, low26_eq _ h.1 h.2]
theorem carry1_1 (x0 x1 x2 x3 x4 o : Int) (h : 0 ≤ x1 + o ∧ x1 + o < 18446744073709551616) : carry1 ([x0, x1, x2, x3, x4], o) 1 = ([x0, (x1 + o) % 67108864, x2, x3, x4], (x1 + o) / 67108864) := by
  have h1 : carry1 ([x0, x1, x2, x3, x4], o) 1 = ([x0, low26 (u64 (x1 + o)), x2, x3, x4], u64 (x1 + o) / 67108864) := rfl
  rw [h1, u64_in _ h, low26_eq _ h.1 h.2]
theorem carry1_2 (x0 x1 x2 x3 x4 o : Int) (h : 0 ≤ x2 + o ∧ x2 + o < 18446744073709551616) : carry1 ([x0, x1, x2, x3, x4], o) 2 = ([x0, x1, (x2 + o) % 67108864, x3, x4], (x2 + o) / 67108864) := by
  have h1 : carry1 ([x0, x1, x2, x3, x4], o) 2 = ([x0, x1, low26 (u64 (x2 + o)), x3, x4], u64 (x2 + o) / 67108864) := rfl
  rw [h1, u64_in _ h, low26_eq _ h.1 h.2]
theorem carry1_3 (x0 x1 x2 x3 x4 o : Int) (h : 0 ≤ x3 + o ∧ x3 + o < 18446744073709551616) : carry1 ([x0, x1, x2, x3, x4], o) 3 = ([x0, x1, x2, (x3 + o) % 67108864, x4], (x3 + o) / 67108864) := by
  have h1 : carry1 ([x0, x1, x2, x3, x4], o) 3 = ([x0, x1, x2, low26 (u64 (x3 + o)), x4], u64 (x3 + o) / 67108864) := rfl
  rw [h1, u64_in _ h, low26_eq _ h.1 h.2]
theorem carry1_4 (x0 x1 x2 x3 x4 o : Int) (h : 0 ≤ x4 + o ∧ x4 + o < 18446744073709551616) : carry1 ([x0, x1, x2, x3, x4], o) 4 = ([x0, x1, x2, x3, (x4 + o) % 67108864], (x4 + o) / 67108864) := by
  have h1 : carry1 ([x0, x1, x2, x3, x4], o) 4 = ([x0, x1, x2, x3, low26 (u64 (x4 + o))], u64 (x4 + o) / 67108864) := rfl
  rw [h1, u64_in _ h, low26_eq _ h.1 h.2]
/-- One round: the same number but for the modulus, smaller parts. -/
theorem carryRound_val (a : List Int) (hl : a.length = 5) (h : ∀ i, i < 5 → 0 ≤ rd a i ∧ rd a i < 4611686018427387904) :
    ∃ o : Int, 0 ≤ o ∧ val5 (carryRound a) = val5 a - o * pP ∧ (0 ≤ rd (carryRound a) 0 ∧ rd (carryRound a) 0 < 67108864 + 5 * o) ∧ (∀ i, 1 ≤ i → i < 5 → 0 ≤ rd (carryRound a) i ∧ rd (carryRound a) i < 67108864) ∧
      o * 67108864 ≤ rd a 4 + (rd a 3 + 137438953472) / 67108864 := by
  have h0 := h 0 (by omega)
  have h1 := h 1 (by omega)
  have h2 := h 2 (by omega)
  have h3 := h 3 (by omega)
  have h4 := h 4 (by omega)
  generalize ha0 : rd a 0 = a0 at *
  generalize ha1 : rd a 1 = a1 at *
  generalize ha2 : rd a 2 = a2 at *
  generalize ha3 : rd a 3 = a3 at *
  generalize ha4 : rd a 4 = a4 at *
  have ha : a = [a0, a1, a2, a3, a4] := by rw [list5 a hl, ha0, ha1, ha2, ha3, ha4]
  obtain ⟨o0, ho0⟩ : ∃ o, o = a0 / 67108864 := ⟨_, rfl⟩
  obtain ⟨o1, ho1⟩ : ∃ o, o = (a1 + o0) / 67108864 := ⟨_, rfl⟩
  obtain ⟨o2, ho2⟩ : ∃ o, o = (a2 + o1) / 67108864 := ⟨_, rfl⟩
  obtain ⟨o3, ho3⟩ : ∃ o, o = (a3 + o2) / 67108864 := ⟨_, rfl⟩
  obtain ⟨o4, ho4⟩ : ∃ o, o = (a4 + o3) / 67108864 := ⟨_, rfl⟩
  have hc : carryTo a 5 = ([a0 % 67108864, (a1 + o0) % 67108864, (a2 + o1) % 67108864, (a3 + o2) % 67108864, (a4 + o3) % 67108864], o4) := by
    have e : carryTo a 5 = carry1 (carry1 (carry1 (carry1 (carry1 (a, 0) 0) 1) 2) 3) 4 := rfl
    rw [e, ha, carry1_0 _ _ _ _ _ _ (by omega), Int.add_zero, ← ho0, carry1_1 _ _ _ _ _ _ (by omega), ← ho1, carry1_2 _ _ _ _ _ _ (by omega), ← ho2, carry1_3 _ _ _ _ _ _ (by omega), ← ho3, carry1_4 _ _ _ _ _ _ (by omega), ← ho4]
  have hr : carryRound a = [a0 % 67108864 + 5 * o4, (a1 + o0) % 67108864, (a2 + o1) % 67108864, (a3 + o2) % 67108864, (a4 + o3) % 67108864] := by
    unfold carryRound
    rw [hc]
    have e : ∀ x, ([a0 % 67108864, (a1 + o0) % 67108864, (a2 + o1) % 67108864, (a3 + o2) % 67108864, (a4 + o3) % 67108864] : List Int).set 0 x = [x, (a1 + o0) % 67108864, (a2 + o1) % 67108864, (a3 + o2) % 67108864, (a4 + o3) % 67108864] := fun x => rfl
    have e0 : rd ([a0 % 67108864, (a1 + o0) % 67108864, (a2 + o1) % 67108864, (a3 + o2) % 67108864, (a4 + o3) % 67108864] : List Int) 0 = a0 % 67108864 := rfl
    rw [e, e0, u64_in (5 * o4) (by omega), u64_in _ (by omega)]
  have r0 : rd (carryRound a) 0 = a0 % 67108864 + 5 * o4 := by rw [hr]; rfl
  have r1 : rd (carryRound a) 1 = (a1 + o0) % 67108864 := by rw [hr]; rfl
  have r2 : rd (carryRound a) 2 = (a2 + o1) % 67108864 := by rw [hr]; rfl
  have r3 : rd (carryRound a) 3 = (a3 + o2) % 67108864 := by rw [hr]; rfl
  have r4 : rd (carryRound a) 4 = (a4 + o3) % 67108864 := by rw [hr]; rfl
  refine ⟨o4, by omega, ?_, by rw [r0]; omega, fun i hi hi5 => ?_, by omega⟩
  · unfold val5 pP
    rw [r0, r1, r2, r3, r4, ha0, ha1, ha2, ha3, ha4]
    omega
  · have hh : i = 1 ∨ i = 2 ∨ i = 3 ∨ i = 4 := by omega
    rcases hh with rfl | rfl | rfl | rfl
    · rw [r1]; omega
    · rw [r2]; omega
    · rw [r3]; omega
    · rw [r4]; omega
end Go.Proofs.YtenjpmegnjdobaaDoor
/- The tag's numbers: carried twice; a product. -/
namespace Go.Proofs.YtenjpmegnjdobaaDoor
open Go.RowKit Go.Cour
/-- Parts that are nearly carried: the first may be a little too much. -/
structure Near (a : List Int) : Prop where
  len : a.length = 5
  lo : 0 ≤ rd a 0 ∧ rd a 0 < 67108869
  hi : ∀ i, 1 ≤ i → i < 5 → 0 ≤ rd a i ∧ rd a i < 67108864
theorem carry2_val (a : List Int) (hl : a.length = 5) (h : ∀ i, i < 5 → 0 ≤ rd a i ∧ rd a i < 4611686018427387904) :
    (∃ o : Int, 0 ≤ o ∧ val5 (carryN a 2) = val5 a - o * pP) ∧ Near (carryN a 2) := by
  have e : carryN a 2 = carryRound (carryRound a) := (carryN_succ a 1).trans (congrArg carryRound ((carryN_succ a 0).trans (congrArg carryRound (carryN_zero a))))
  obtain ⟨o, ho, hv, hb0, hb, hob⟩ := carryRound_val a hl h
  have h3 := h 3 (by omega)
  have h4 := h 4 (by omega)
  have hb1 := hb 1 (by omega) (by omega)
  have hb2 := hb 2 (by omega) (by omega)
  have hb3 := hb 3 (by omega) (by omega)
  have hb4 := hb 4 (by omega) (by omega)
  have hl1 := carryRound_length a
  obtain ⟨o', ho', hv', hb0', hb', hob'⟩ := carryRound_val (carryRound a) (by rw [hl1, hl]) (fun i hi => by
    have hh : i = 0 ∨ i = 1 ∨ i = 2 ∨ i = 3 ∨ i = 4 := by omega
    rcases hh with rfl | rfl | rfl | rfl | rfl <;> omega)
  rw [e]
  refine ⟨⟨o + o', by omega, by rw [hv', hv, Int.add_mul]; omega⟩, by rw [carryRound_length, hl1, hl], ?_, hb'⟩
  have : o' ≤ 1 := by omega
  omega
theorem toutTo_raw (a0 a1 a2 a3 a4 b0 b1 b2 b3 b4 : Int) : toutTo [a0, a1, a2, a3, a4] [b0, b1, b2, b3, b4] 5 = [u64 (u64 (u64 (u64 (u64 (0 + u64 (a0 * b0)) + u64 (u64 (a1 * b4) * 5)) + u64 (u64 (a2 * b3) * 5)) + u64 (u64 (a3 * b2) * 5)) + u64 (u64 (a4 * b1) * 5)),
    u64 (u64 (u64 (u64 (u64 (0 + u64 (a0 * b1)) + u64 (a1 * b0)) + u64 (u64 (a2 * b4) * 5)) + u64 (u64 (a3 * b3) * 5)) + u64 (u64 (a4 * b2) * 5)),
    u64 (u64 (u64 (u64 (u64 (0 + u64 (a0 * b2)) + u64 (a1 * b1)) + u64 (a2 * b0)) + u64 (u64 (a3 * b4) * 5)) + u64 (u64 (a4 * b3) * 5)),
    u64 (u64 (u64 (u64 (u64 (0 + u64 (a0 * b3)) + u64 (a1 * b2)) + u64 (a2 * b1)) + u64 (a3 * b0)) + u64 (u64 (a4 * b4) * 5)),
    u64 (u64 (u64 (u64 (u64 (0 + u64 (a0 * b4)) + u64 (a1 * b3)) + u64 (a2 * b2)) + u64 (a3 * b1)) + u64 (a4 * b0))] := by kernel_rfl
/-- Ten products' sum, each step of 64 bits: no step is too much. -/
theorem five_u64 (x0 x1 x2 x3 x4 : Int) (h0 : 0 ≤ x0 ∧ x0 < 288230376151711744) (h1 : 0 ≤ x1 ∧ x1 < 288230376151711744) (h2 : 0 ≤ x2 ∧ x2 < 288230376151711744) (h3 : 0 ≤ x3 ∧ x3 < 288230376151711744) (h4 : 0 ≤ x4 ∧ x4 < 288230376151711744) :
    u64 (u64 (u64 (u64 (u64 (0 + x0) + x1) + x2) + x3) + x4) = x0 + x1 + x2 + x3 + x4 := by
  rw [u64_in (0 + x0) (by omega), u64_in (0 + x0 + x1) (by omega), u64_in (0 + x0 + x1 + x2) (by omega), u64_in (0 + x0 + x1 + x2 + x3) (by omega), u64_in _ (by omega)]
  omega
theorem prod_in (a b : Int) (ha : 0 ≤ a ∧ a < 268435456) (hb : 0 ≤ b ∧ b < 134217728) : 0 ≤ a * b ∧ a * b < 36028797018963968 := by
  refine ⟨Int.mul_nonneg ha.1 hb.1, ?_⟩
  have h1 : a * b ≤ 268435455 * b := Int.mul_le_mul_of_nonneg_right (by omega) hb.1
  omega
theorem prod1 (a b : Int) (ha : 0 ≤ a ∧ a < 268435456) (hb : 0 ≤ b ∧ b < 134217728) : u64 (a * b) = a * b := by
  have := prod_in a b ha hb
  exact u64_in _ (by omega)
theorem prod5 (a b : Int) (ha : 0 ≤ a ∧ a < 268435456) (hb : 0 ≤ b ∧ b < 134217728) : u64 (u64 (a * b) * 5) = a * b * 5 := by
  have := prod_in a b ha hb
  rw [prod1 a b ha hb]
  exact u64_in _ (by omega)
theorem toutTo_eq (a0 a1 a2 a3 a4 b0 b1 b2 b3 b4 : Int) (ha0 : 0 ≤ a0 ∧ a0 < 268435456) (ha1 : 0 ≤ a1 ∧ a1 < 268435456) (ha2 : 0 ≤ a2 ∧ a2 < 268435456) (ha3 : 0 ≤ a3 ∧ a3 < 268435456) (ha4 : 0 ≤ a4 ∧ a4 < 268435456) (hb0 : 0 ≤ b0 ∧ b0 < 134217728) (hb1 : 0 ≤ b1 ∧ b1 < 134217728) (hb2 : 0 ≤ b2 ∧ b2 < 134217728) (hb3 : 0 ≤ b3 ∧ b3 < 134217728) (hb4 : 0 ≤ b4 ∧ b4 < 134217728) : toutTo [a0, a1, a2, a3, a4] [b0, b1, b2, b3, b4] 5 = [a0 * b0 + a1 * b4 * 5 + a2 * b3 * 5 + a3 * b2 * 5 + a4 * b1 * 5, a0 * b1 + a1 * b0 + a2 * b4 * 5 + a3 * b3 * 5 + a4 * b2 * 5, a0 * b2 + a1 * b1 + a2 * b0 + a3 * b4 * 5 + a4 * b3 * 5, a0 * b3 + a1 * b2 + a2 * b1 + a3 * b0 + a4 * b4 * 5, a0 * b4 + a1 * b3 + a2 * b2 + a3 * b1 + a4 * b0] := by
  rw [toutTo_raw]
  have p00 := prod_in a0 b0 ha0 hb0
  have p01 := prod_in a0 b1 ha0 hb1
  have p02 := prod_in a0 b2 ha0 hb2
  have p03 := prod_in a0 b3 ha0 hb3
  have p04 := prod_in a0 b4 ha0 hb4
  have p10 := prod_in a1 b0 ha1 hb0
  have p11 := prod_in a1 b1 ha1 hb1
  have p12 := prod_in a1 b2 ha1 hb2
  have p13 := prod_in a1 b3 ha1 hb3
  have p14 := prod_in a1 b4 ha1 hb4
  have p20 := prod_in a2 b0 ha2 hb0
  have p21 := prod_in a2 b1 ha2 hb1
  have p22 := prod_in a2 b2 ha2 hb2
  have p23 := prod_in a2 b3 ha2 hb3
  have p24 := prod_in a2 b4 ha2 hb4
  have p30 := prod_in a3 b0 ha3 hb0
  have p31 := prod_in a3 b1 ha3 hb1
  have p32 := prod_in a3 b2 ha3 hb2
  have p33 := prod_in a3 b3 ha3 hb3
  have p34 := prod_in a3 b4 ha3 hb4
  have p40 := prod_in a4 b0 ha4 hb0
  have p41 := prod_in a4 b1 ha4 hb1
  have p42 := prod_in a4 b2 ha4 hb2
  have p43 := prod_in a4 b3 ha4 hb3
  have p44 := prod_in a4 b4 ha4 hb4
  rw [prod1 a0 b0 ha0 hb0, prod1 a0 b1 ha0 hb1, prod1 a0 b2 ha0 hb2, prod1 a0 b3 ha0 hb3, prod1 a0 b4 ha0 hb4, prod1 a1 b0 ha1 hb0, prod1 a1 b1 ha1 hb1, prod1 a1 b2 ha1 hb2, prod1 a1 b3 ha1 hb3, prod5 a1 b4 ha1 hb4, prod1 a2 b0 ha2 hb0, prod1 a2 b1 ha2 hb1, prod1 a2 b2 ha2 hb2, prod5 a2 b3 ha2 hb3, prod5 a2 b4 ha2 hb4, prod1 a3 b0 ha3 hb0, prod1 a3 b1 ha3 hb1, prod5 a3 b2 ha3 hb2, prod5 a3 b3 ha3 hb3, prod5 a3 b4 ha3 hb4, prod1 a4 b0 ha4 hb0, prod5 a4 b1 ha4 hb1, prod5 a4 b2 ha4 hb2, prod5 a4 b3 ha4 hb3, prod5 a4 b4 ha4 hb4]
  generalize a0 * b0 = t00 at *
  generalize a0 * b1 = t01 at *
  generalize a0 * b2 = t02 at *
  generalize a0 * b3 = t03 at *
  generalize a0 * b4 = t04 at *
  generalize a1 * b0 = t10 at *
  generalize a1 * b1 = t11 at *
  generalize a1 * b2 = t12 at *
  generalize a1 * b3 = t13 at *
  generalize a1 * b4 = t14 at *
  generalize a2 * b0 = t20 at *
  generalize a2 * b1 = t21 at *
  generalize a2 * b2 = t22 at *
  generalize a2 * b3 = t23 at *
  generalize a2 * b4 = t24 at *
  generalize a3 * b0 = t30 at *
  generalize a3 * b1 = t31 at *
  generalize a3 * b2 = t32 at *
  generalize a3 * b3 = t33 at *
  generalize a3 * b4 = t34 at *
  generalize a4 * b0 = t40 at *
  generalize a4 * b1 = t41 at *
  generalize a4 * b2 = t42 at *
  generalize a4 * b3 = t43 at *
  generalize a4 * b4 = t44 at *
  rw [five_u64 _ _ _ _ _ (by omega) (by omega) (by omega) (by omega) (by omega), five_u64 _ _ _ _ _ (by omega) (by omega) (by omega) (by omega) (by omega), five_u64 _ _ _ _ _ (by omega) (by omega) (by omega) (by omega) (by omega), five_u64 _ _ _ _ _ (by omega) (by omega) (by omega) (by omega) (by omega), five_u64 _ _ _ _ _ (by omega) (by omega) (by omega) (by omega) (by omega)]
theorem times_num (a0 a1 a2 a3 a4 b0 b1 b2 b3 b4 : Int) : (a0 + a1 * 67108864 + a2 * 4503599627370496 + a3 * 302231454903657293676544 + a4 * 20282409603651670423947251286016) * (b0 + b1 * 67108864 + b2 * 4503599627370496 + b3 * 302231454903657293676544 + b4 * 20282409603651670423947251286016) = ((a0 * b0 + a1 * b4 * 5 + a2 * b3 * 5 + a3 * b2 * 5 + a4 * b1 * 5) + (a0 * b1 + a1 * b0 + a2 * b4 * 5 + a3 * b3 * 5 + a4 * b2 * 5) * 67108864 + (a0 * b2 + a1 * b1 + a2 * b0 + a3 * b4 * 5 + a4 * b3 * 5) * 4503599627370496 + (a0 * b3 + a1 * b2 + a2 * b1 + a3 * b0 + a4 * b4 * 5) * 302231454903657293676544 + (a0 * b4 + a1 * b3 + a2 * b2 + a3 * b1 + a4 * b0) * 20282409603651670423947251286016) + (a1 * b4 + a2 * b3 + a2 * b4 * 67108864 + a3 * b2 + a3 * b3 * 67108864 + a3 * b4 * 4503599627370496 + a4 * b1 + a4 * b2 * 67108864 + a4 * b3 * 4503599627370496 + a4 * b4 * 302231454903657293676544) * 1361129467683753853853498429727072845819 := by
  grind
theorem times_val (a b : List Int) (hla : a.length = 5) (hlb : b.length = 5) (ha : ∀ i, i < 5 → 0 ≤ rd a i ∧ rd a i < 268435456) (hb : ∀ i, i < 5 → 0 ≤ rd b i ∧ rd b i < 134217728) :
    (∃ o : Int, val5 (times a b) = val5 a * val5 b - o * pP) ∧ Near (times a b) := by
  have ha0 := ha 0 (by omega)
  have hb0 := hb 0 (by omega)
  have ha1 := ha 1 (by omega)
  have hb1 := hb 1 (by omega)
  have ha2 := ha 2 (by omega)
  have hb2 := hb 2 (by omega)
  have ha3 := ha 3 (by omega)
  have hb3 := hb 3 (by omega)
  have ha4 := ha 4 (by omega)
  have hb4 := hb 4 (by omega)
  have ea := list5 a hla
  have eb := list5 b hlb
  generalize ra0 : rd a 0 = a0 at *
  generalize rb0 : rd b 0 = b0 at *
  generalize ra1 : rd a 1 = a1 at *
  generalize rb1 : rd b 1 = b1 at *
  generalize ra2 : rd a 2 = a2 at *
  generalize rb2 : rd b 2 = b2 at *
  generalize ra3 : rd a 3 = a3 at *
  generalize rb3 : rd b 3 = b3 at *
  generalize ra4 : rd a 4 = a4 at *
  generalize rb4 : rd b 4 = b4 at *
  have ho := toutTo_eq a0 a1 a2 a3 a4 b0 b1 b2 b3 b4 ha0 ha1 ha2 ha3 ha4 hb0 hb1 hb2 hb3 hb4
  rw [← ea, ← eb] at ho
  have hn := times_num a0 a1 a2 a3 a4 b0 b1 b2 b3 b4
  have p00 := prod_in a0 b0 ha0 hb0
  have p01 := prod_in a0 b1 ha0 hb1
  have p02 := prod_in a0 b2 ha0 hb2
  have p03 := prod_in a0 b3 ha0 hb3
  have p04 := prod_in a0 b4 ha0 hb4
  have p10 := prod_in a1 b0 ha1 hb0
  have p11 := prod_in a1 b1 ha1 hb1
  have p12 := prod_in a1 b2 ha1 hb2
  have p13 := prod_in a1 b3 ha1 hb3
  have p14 := prod_in a1 b4 ha1 hb4
  have p20 := prod_in a2 b0 ha2 hb0
  have p21 := prod_in a2 b1 ha2 hb1
  have p22 := prod_in a2 b2 ha2 hb2
  have p23 := prod_in a2 b3 ha2 hb3
  have p24 := prod_in a2 b4 ha2 hb4
  have p30 := prod_in a3 b0 ha3 hb0
  have p31 := prod_in a3 b1 ha3 hb1
  have p32 := prod_in a3 b2 ha3 hb2
  have p33 := prod_in a3 b3 ha3 hb3
  have p34 := prod_in a3 b4 ha3 hb4
  have p40 := prod_in a4 b0 ha4 hb0
  have p41 := prod_in a4 b1 ha4 hb1
  have p42 := prod_in a4 b2 ha4 hb2
  have p43 := prod_in a4 b3 ha4 hb3
  have p44 := prod_in a4 b4 ha4 hb4
  have hva : val5 a = a0 + a1 * 67108864 + a2 * 4503599627370496 + a3 * 302231454903657293676544 + a4 * 20282409603651670423947251286016 := by unfold val5; rw [ra0, ra1, ra2, ra3, ra4]
  have hvb : val5 b = b0 + b1 * 67108864 + b2 * 4503599627370496 + b3 * 302231454903657293676544 + b4 * 20282409603651670423947251286016 := by unfold val5; rw [rb0, rb1, rb2, rb3, rb4]
  rw [← hva, ← hvb] at hn
  clear hva hvb ea eb ha hb
  generalize a0 * b0 = t00 at *
  generalize a0 * b1 = t01 at *
  generalize a0 * b2 = t02 at *
  generalize a0 * b3 = t03 at *
  generalize a0 * b4 = t04 at *
  generalize a1 * b0 = t10 at *
  generalize a1 * b1 = t11 at *
  generalize a1 * b2 = t12 at *
  generalize a1 * b3 = t13 at *
  generalize a1 * b4 = t14 at *
  generalize a2 * b0 = t20 at *
  generalize a2 * b1 = t21 at *
  generalize a2 * b2 = t22 at *
  generalize a2 * b3 = t23 at *
  generalize a2 * b4 = t24 at *
  generalize a3 * b0 = t30 at *
  generalize a3 * b1 = t31 at *
  generalize a3 * b2 = t32 at *
  generalize a3 * b3 = t33 at *
  generalize a3 * b4 = t34 at *
  generalize a4 * b0 = t40 at *
  generalize a4 * b1 = t41 at *
  generalize a4 * b2 = t42 at *
  generalize a4 * b3 = t43 at *
  generalize a4 * b4 = t44 at *
  obtain ⟨x0, hx0⟩ : ∃ x, x = t00 + t14 * 5 + t23 * 5 + t32 * 5 + t41 * 5 := ⟨_, rfl⟩
  obtain ⟨x1, hx1⟩ : ∃ x, x = t01 + t10 + t24 * 5 + t33 * 5 + t42 * 5 := ⟨_, rfl⟩
  obtain ⟨x2, hx2⟩ : ∃ x, x = t02 + t11 + t20 + t34 * 5 + t43 * 5 := ⟨_, rfl⟩
  obtain ⟨x3, hx3⟩ : ∃ x, x = t03 + t12 + t21 + t30 + t44 * 5 := ⟨_, rfl⟩
  obtain ⟨x4, hx4⟩ : ∃ x, x = t04 + t13 + t22 + t31 + t40 := ⟨_, rfl⟩
  rw [← hx0, ← hx1, ← hx2, ← hx3, ← hx4] at ho hn
  have hbx : ∀ i, i < 5 → 0 ≤ rd (toutTo a b 5) i ∧ rd (toutTo a b 5) i < 4611686018427387904 := fun i hi => by
    have hh : i = 0 ∨ i = 1 ∨ i = 2 ∨ i = 3 ∨ i = 4 := by omega
    rw [ho]
    rcases hh with rfl | rfl | rfl | rfl | rfl
    · show 0 ≤ x0 ∧ x0 < 4611686018427387904; omega
    · show 0 ≤ x1 ∧ x1 < 4611686018427387904; omega
    · show 0 ≤ x2 ∧ x2 < 4611686018427387904; omega
    · show 0 ≤ x3 ∧ x3 < 4611686018427387904; omega
    · show 0 ≤ x4 ∧ x4 < 4611686018427387904; omega
  obtain ⟨⟨o, ho0, hov⟩, hnear⟩ := carry2_val (toutTo a b 5) (toutTo_length a b 5) hbx
  have hvo : val5 (toutTo a b 5) = x0 + x1 * 67108864 + x2 * 4503599627370496 + x3 * 302231454903657293676544 + x4 * 20282409603651670423947251286016 := by rw [ho]; rfl
  refine ⟨⟨o + (t14 + t23 + t24 * 67108864 + t32 + t33 * 67108864 + t34 * 4503599627370496 + t41 + t42 * 67108864 + t43 * 4503599627370496 + t44 * 302231454903657293676544), ?_⟩, hnear⟩
  have e : times a b = carryN (toutTo a b 5) 2 := rfl
  rw [e, hov, hn, Int.add_mul, hvo]
  unfold pP
  omega
end Go.Proofs.YtenjpmegnjdobaaDoor
