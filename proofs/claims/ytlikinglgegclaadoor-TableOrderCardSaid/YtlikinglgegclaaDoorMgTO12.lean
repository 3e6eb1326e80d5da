import Derived.Test.YtlikinglgegclaaDoorMgTO0
import Derived.Test.YtlikinglgegclaaDoorMgTO1
import Derived.Test.YtlikinglgegclaaDoorMgTO2
import Derived.Test.YtlikinglgegclaaDoorMgTO3
import Derived.Test.YtlikinglgegclaaDoorMgTO4
import Derived.Test.YtlikinglgegclaaDoorMgTO5
import Derived.Test.YtlikinglgegclaaDoorMgTO6
import Derived.Test.YtlikinglgegclaaDoorMgTO7
import Derived.Test.YtlikinglgegclaaDoorMgTO8
import Derived.Test.YtlikinglgegclaaDoorMgTO9
import Derived.Test.YtlikinglgegclaaDoorMgTO10
import Derived.Test.YtlikinglgegclaaDoorMgTO11
set_option linter.unusedSimpArgs false
set_option linter.unusedVariables false
open List (getElem_toArray getElem_cons_zero getElem_cons_succ)
/- The reference's XOR. -/
namespace Go.Proofs.YtlikinglgegclaaDoor
open Go.RowKit Go.Cour
theorem sizeU8X : (Tryd.prog.info? 5).map (·.size) = some 1 := by kernel_rfl
theorem zeroU8X : ((Tryd.prog.info? 5).bind (·.zero)).isSome = true := by kernel_rfl
def xor1To (key : List Int) (c : Int) (nonce xs : List Int) (i : Nat) : List Int := (List.range i).map (xorByte key c nonce xs)
theorem xor1To_succ (key : List Int) (c : Int) (nonce xs : List Int) (i : Nat) : xor1To key c nonce xs (i + 1) = xor1To key c nonce xs i ++ [xorByte key c nonce xs i] := by simp [xor1To, List.range_succ]
theorem xor1To_length (key : List Int) (c : Int) (nonce xs : List Int) (i : Nat) : (xor1To key c nonce xs i).length = i := by simp [xor1To]
theorem xor1To_all (key : List Int) (c : Int) (nonce xs : List Int) : xor1To key c nonce xs xs.length = xorStream key c nonce xs := by
  refine ext_rd (by rw [xor1To_length, xorStream_length]) fun i hi => ?_
  rw [xor1To_length] at hi
  rw [rd_xorStream _ _ _ _ _ hi]
  unfold rd xor1To
  rw [List.getD_eq_getElem?_getD, List.getElem?_map, List.getElem?_range hi]
  rfl
/-- What the blocks of a call hold. -/
structure XB (w wr : World) (g4 g6 g10 : Nat) (key nonce bl : List Int) : Prop where
  k : Blk wr g4 27 (ints .u8 key)
  n : Blk wr g6 91 (ints .u8 nonce)
  s : Blk wr g10 142 (ints .u8 bl)
  bel : Below w.heap.size w wr
theorem XB.below {w wr wx : World} {g4 g6 g10 : Nat} {key nonce bl : List Int} (h : XB w wr g4 g6 g10 key nonce bl) (hb : Below wr.heap.size wr wx) : XB w wx g4 g6 g10 key nonce bl :=
  ⟨h.k.belowAll hb, h.n.belowAll hb, h.s.belowAll hb, below_then h.bel h.bel.size hb⟩
theorem XB.drew {w wr : World} {g4 g6 g10 : Nat} {key nonce bl : List Int} (h : XB w wr g4 g6 g10 key nonce bl) : XB w wr.drew g4 g6 g10 key nonce bl := ⟨h.k.drew, h.n.drew, h.s.drew, below_drewN h.bel 1⟩
theorem XB.put {w wr wx : World} {g4 g6 g10 : Nat} {key nonce bl : List Int} (h : XB w wr g4 g6 g10 key nonce bl) (hb : Below wr.heap.size wr wx) (h4 : g4 ≠ g10) (h6 : g6 ≠ g10) (hw : w.heap.size ≤ g10) (bl' : List Int) :
    XB w (wx.setRow g10 (ints .u8 bl').toArray) g4 g6 g10 key nonce bl' :=
  ⟨(h.k.belowAll hb).setRowOther h4 _, (h.n.belowAll hb).setRowOther h6 _, (h.s.belowAll hb).setRow _, below_setRow (below_then h.bel h.bel.size hb) hw _⟩
theorem XB.grown {w wr wx : World} {g4 g6 g10 : Nat} {key nonce bl xs : List Int} {v : Value} (h : XB w wr g4 g6 g10 key nonce bl) (ho : Own wr w.heap.size 5 .u8 v xs) (hg : wr.grownBy wx v.ownBlock) : XB w wx g4 g6 g10 key nonce bl :=
  ⟨h.k.grown hg (fun he => ho.ne_blk h.k (by decide) he.symm), h.n.grown hg (fun he => ho.ne_blk h.n (by decide) he.symm), h.s.grown hg (fun he => ho.ne_blk h.s (by decide) he.symm), ho.grown_below h.bel hg h.bel.size (Nat.le_refl _)⟩
set_option maxHeartbeats 4000000 in
set_option maxRecDepth 100000 in
theorem xor1_calls (key nonce xs : List Int) (c : Int) (A : Option Addr) (m cap : Nat) (w : World) (hm : m = xs.length) (hk : key.length = 32) (hn : nonce.length = 12) (rk : bytesOk key) (rn : bytesOk nonce) (hc : 0 ≤ c ∧ c < 4294967296)
    (hr : Rd w A .u8 xs) (hl : xs.length ≤ 1000000) :
    Calls Tryd.prog 71 #[.agg (ints .u8 key).toArray, .int .u32 c, .agg (ints .u8 nonce).toArray, .slice A m cap] w fun e w' =>
      ∃ v, e = .returned v ∧ Own w' w.heap.size 5 .u8 v (xorStream key c nonce xs) ∧ Below w.heap.size w w' := by
  have HK := hid hk
  have HN := hid hn
  have HR := hid hr
  have HM := hid hm
  have hmb : m ≤ 1000000 := by omega
  clear hk hn hr hm hl
  go_enter Tryd.func71, Tryd.ntmps71
  go_wp2_with (first
    | (refine box_blk rfl 27 _ rfl _ rfl (ints .u8 key) rfl ?_; intro g4 w1 hg4 hb4 hB1 hs1)
    | (refine box_blk rfl 91 _ rfl _ rfl (ints .u8 nonce) rfl ?_; intro g6 w2 hg6 hb6 hB2 hs2)
    | (refine alloc_blk rfl 142 rfl _ rfl (ints .u8 (List.replicate 64 0)) (by kernel_rfl) ?_; intro g10 w3 hg10 hb10 hB3 hs3)
    | fail)
  have hz : Hd (g4 ≠ g10 ∧ g6 ≠ g10 ∧ w.heap.size ≤ g10) := hid (by omega)
  have hX : XB w w3 g4 g6 g10 key nonce (List.replicate 64 0) := ⟨(hb4.belowAll hB2).belowAll hB3, hb6.belowAll hB3, hb10, below_then (below_then hB1 hB1.size hB2) (by omega) hB3⟩
  clear hg4 hb4 hB1 hs1 hg6 hb6 hB2 hs2 hg10 hb10 hB3 hs3
  go_loopg [9, 11] (m + 1) (fun kq v9 v11 wr => ∃ i : Nat, i ≤ m ∧ v11 = .int .i64 i ∧ Hd (kq + i = m + 1) ∧ Own wr w.heap.size 5 .u8 v9 (xor1To key c nonce xs i) ∧ ∃ bl : List Int, Hd (bl.length = 64) ∧ Hd (i % 64 = 0 ∨ bl = block key (ctr c (i / 64)) nonce) ∧ XB w wr g4 g6 g10 key nonce bl)
  case atStart => exact ⟨0, by omega, rfl, hid (by omega), Own.nil _ _ _ _, _, hid (by simp), hid (.inl rfl), hX⟩
  case round =>
    clear hX
    obtain ⟨i, hi, rfl, hgq, ho, bl, hbl, hbe, hX⟩ := hrel
    by_cases hlt : i < m
    · have a1 : (i : Int) < m := by omega
      obtain ⟨q, r, hqr, hr64⟩ : ∃ q r : Nat, Hd (i = 64 * q + r) ∧ r < 64 := ⟨i / 64, i % 64, hid (by omega), by omega⟩
      have a2 : (i : Int).tmod 64 = (r : Int) := by
        have := hqr.out
        rw [Int.tmod_eq_emod_of_nonneg (by omega)]
        omega
      have a3 : (r : Int) < 64 := by omega
      have hlo : Hd ((xor1To key c nonce xs i).length = i) := hid (xor1To_length _ _ _ _ _)
      by_cases hr0 : r = 0
      · have a4 : IntKind.i64.wrap ((i : Int) / 64) = (q : Int) := by
          have := hqr.out
          rw [IntWalk.i64_in _ (by omega)]
          omega
        have a5 : ((r : Int) = 0) := by omega
        have hbk : Hd ((ints .u8 (block key (ctr c q) nonce)).length = 64) := hid (by simpa using block_length key (ctr c q) nonce)
        obtain ⟨nb, hnb⟩ : ∃ nb, Hd (nb = block key (ctr c q) nonce) := ⟨_, hid rfl⟩
        go_wp2_with (first
          | (refine load_blk rfl 27 _ rfl g4 rfl 27 _ hX.k 32 5 arr23 (by simpa using HK.out) info23 ?_)
          | (refine load_blk rfl 91 _ rfl g6 rfl 91 _ hX.n 12 5 arr24 (by simpa using HN.out) info24 ?_)
          | (go_at_call 89; refine (block1_calls key nonce (ctr c q) _ HK.out HN.out rk rn (ctr_bound c q)).mono ?_; rintro e wx ⟨rfl, hbx⟩; rw [← hnb.out])
          | (refine store_blk rfl 142 _ _ rfl g10 (ints .u8 nb) rfl rfl 142 _ (hX.s.belowAll hbx) 64 info44 (by rw [hnb.out]; exact hbk.out) (by simpa using hbl.out) (ints_one _ _) ?_)
          | fail)
        replace ho := ho.below hbx
        replace ho := ho.setRowOther (ho.ne_blk (hX.s.belowAll hbx) (by decide)) (ints .u8 nb).toArray
        replace hX := hX.put hbx hz.out.1 hz.out.2.1 hz.out.2.2 nb
        clear hbl hbe hbx hbk
        obtain ⟨wo, rfl⟩ : ∃ wo : World, wo = wr := ⟨_, rfl⟩
        clear hr0 a5 a4
        generalize wx.setRow g10 (ints .u8 nb).toArray = wr at ho hX ⊢
        have hbl : Hd (nb.length = 64) := hid (by rw [hnb.out]; exact block_length _ _ _)
        have hbx : Hd (xorByte key c nonce xs i = bits .xor .u8 (rd xs i) (rd nb r)) := hid (by
          have e1 : i / 64 = q := by have := hqr.out; omega
          have e2 : i % 64 = r := by have := hqr.out; omega
          rw [xorByte, e1, e2, hnb.out])
        obtain ⟨g, o, rfl⟩ := HR.out.at (by rw [← HM.out]; omega)
        obtain ⟨X, hXb⟩ : ∃ X, Hd (xorByte key c nonce xs i = X) := ⟨_, hid rfl⟩
        obtain ⟨XT, hXT⟩ : ∃ XT, Hd (xor1To key c nonce xs i = XT) := ⟨_, hid rfl⟩
        rw [hXT.out] at ho hlo
        clear a2
        have a2 : (i : Int).tmod 64 = (r : Int) := by
          have := hqr.out
          rw [Int.tmod_eq_emod_of_nonneg (by omega)]
          omega
        refine wp_region_factsU (ix := [[0], [1], [2], [3], [4], [5], [6], [7], [8], [9], [10], [11], [12]]) (S := fun w' => XB w w' g4 g6 g10 key nonce nb)
          (R := fun iO w1 w2 => if iO = 11 then w1.grownBy w2 u9.ownBlock else (Below w1.heap.size w1 w2))
          (U := fun iO w1 => match iO with
            | 11 => Own w1 w.heap.size 5 .u8 u9 XT
            | _ => True)
          (kill := fun jO => match jO with
            | 10 => some 11
            | _ => none)
          (p := fun jO vs w' => match jO with
            | 0 => vs 0 = u9
            | 1 => vs 1 = .slice (some ⟨g, o, none⟩) m cap
            | 2 => vs 2 = .int .i64 i
            | 3 => vs 3 = .pointer (some ⟨g, o + i, none⟩)
            | 4 => vs 4 = .int .u8 (rd xs i)
            | 5 => vs 5 = .int .i64 i
            | 6 => vs 6 = .int .i64 r
            | 7 => vs 7 = .pointer (some ⟨g10, r, none⟩)
            | 8 => vs 8 = .int .u8 (rd nb r)
            | 9 => vs 9 = .int .u8 X
            | 10 => ∃ g, vs 10 = .slice (some ⟨g, 0, none⟩) 1 1 ∧ Blk w' g 5 (ints .u8 [X])
            | 11 => Own w' w.heap.size 5 .u8 (vs 11) (xor1To key c nonce xs (i + 1))
            | 12 => Own w' w.heap.size 5 .u8 (vs 12) (xor1To key c nonce xs (i + 1))
            | _ => True)
          (ks := [])
          (hm := by kernel_rfl) (hc := by kernel_rfl) ?_ ?_ ?_ ?_ ?_ ?_
        · exact hX.drew
        · intro iO jO vs w1 w2 hij hw hkl hR h
          have hB : iO ≠ 11 → Below w1.heap.size w1 w2 := fun h11 => by rw [if_neg h11] at hR; exact hR
          match jO with
          | 0 | 1 | 2 | 3 | 4 | 5 | 6 | 7 | 8 | 9 => exact h
          | 10 => obtain ⟨g, h1, h2⟩ := h; exact ⟨g, h1, h2.belowAll (hB (by rintro rfl; exact hkl rfl))⟩
          | 11 => exact Own.below h (hB (by rintro rfl; exact hij rfl))
          | 12 => exact Own.below h (hB (by rintro rfl; exact absurd (Eq.trans (by kernel_rfl : true = _) hw) (by decide)))
          | nO + 13 => trivial
        · intro jO
          match jO with
          | 11 => exact ho.drew
          | 0 | 1 | 2 | 3 | 4 | 5 | 6 | 7 | 8 | 9 | 10 | 12 | nO + 13 => trivial
        · intro iO jO w1 w2 hij hw hR h
          have hB : iO ≠ 11 → Below w1.heap.size w1 w2 := fun h11 => by rw [if_neg h11] at hR; exact hR
          match jO with
          | 11 => exact Own.below h (hB (fun he => hij he))
          | 0 | 1 | 2 | 3 | 4 | 5 | 6 | 7 | 8 | 9 | 10 | 12 | nO + 13 => trivial
        · refine ⟨?_, ?_, ?_, ?_, ?_, ?_, ?_, ?_, ?_, ?_, ?_, ?_, ?_, trivial⟩
          · (intro vs w2 hS hU hd; simp [Region.binds, Fact.at] at hd; simp only [fill, List.take_succ_cons, List.take_zero, Act.put, List.setIfInBounds_toArray, List.set_cons_zero, List.set_cons_succ, Nat.reduceAdd])
            try simp only [hd]
            go_wp2_with fail
            exact ⟨rfl, rfl, hS, Below.refl _ _⟩
          · (intro vs w2 hS hU hd; simp [Region.binds, Fact.at] at hd; simp only [fill, List.take_succ_cons, List.take_zero, Act.put, List.setIfInBounds_toArray, List.set_cons_zero, List.set_cons_succ, Nat.reduceAdd])
            try simp only [hd]
            go_wp2_with fail
            exact ⟨rfl, rfl, hS, Below.refl _ _⟩
          · (intro vs w2 hS hU hd; simp [Region.binds, Fact.at] at hd; simp only [fill, List.take_succ_cons, List.take_zero, Act.put, List.setIfInBounds_toArray, List.set_cons_zero, List.set_cons_succ, Nat.reduceAdd])
            try simp only [hd]
            go_wp2_with fail
            exact ⟨rfl, rfl, hS, Below.refl _ _⟩
          · (intro vs w2 hS hU hd; simp [Region.binds, Fact.at] at hd; simp only [fill, List.take_succ_cons, List.take_zero, Act.put, List.setIfInBounds_toArray, List.set_cons_zero, List.set_cons_succ, Nat.reduceAdd])
            simp only [hd]
            go_wp2_with fail
            exact ⟨rfl, rfl, hS, Below.refl _ _⟩
          · (intro vs w2 hS hU hd; simp [Region.binds, Fact.at] at hd; simp only [fill, List.take_succ_cons, List.take_zero, Act.put, List.setIfInBounds_toArray, List.set_cons_zero, List.set_cons_succ, Nat.reduceAdd])
            have cx := (HR.out.below hS.bel).cellAt i (by rw [← HM.out]; omega)
            simp only [hd]
            go_wp2_with fail
            exact ⟨rfl, rfl, hS, Below.refl _ _⟩
          · (intro vs w2 hS hU hd; simp [Region.binds, Fact.at] at hd; simp only [fill, List.take_succ_cons, List.take_zero, Act.put, List.setIfInBounds_toArray, List.set_cons_zero, List.set_cons_succ, Nat.reduceAdd])
            try simp only [hd]
            go_wp2_with fail
            exact ⟨rfl, rfl, hS, Below.refl _ _⟩
          · (intro vs w2 hS hU hd; simp [Region.binds, Fact.at] at hd; simp only [fill, List.take_succ_cons, List.take_zero, Act.put, List.setIfInBounds_toArray, List.set_cons_zero, List.set_cons_succ, Nat.reduceAdd])
            simp only [hd]
            go_wp2_with fail
            exact ⟨rfl, rfl, hS, Below.refl _ _⟩
          · (intro vs w2 hS hU hd; simp [Region.binds, Fact.at] at hd; simp only [fill, List.take_succ_cons, List.take_zero, Act.put, List.setIfInBounds_toArray, List.set_cons_zero, List.set_cons_succ, Nat.reduceAdd])
            simp only [hd]
            go_wp2_with fail
            exact ⟨rfl, rfl, hS, Below.refl _ _⟩
          · (intro vs w2 hS hU hd; simp [Region.binds, Fact.at] at hd; simp only [fill, List.take_succ_cons, List.take_zero, Act.put, List.setIfInBounds_toArray, List.set_cons_zero, List.set_cons_succ, Nat.reduceAdd])
            have cs := hS.s.cellI r (by rw [hbl.out]; omega)
            simp only [hd]
            go_wp2_with fail
            exact ⟨rfl, rfl, hS, Below.refl _ _⟩
          · (intro vs w2 hS hU hd; simp [Region.binds, Fact.at] at hd; simp only [fill, List.take_succ_cons, List.take_zero, Act.put, List.setIfInBounds_toArray, List.set_cons_zero, List.set_cons_succ, Nat.reduceAdd])
            simp only [hd]
            go_wp2_with fail
            rw [← hXb.out, hbx.out]
            exact ⟨rfl, rfl, hS, Below.refl _ _⟩
          · (intro vs w2 hS hU hd; simp [Region.binds, Fact.at] at hd; simp only [fill, List.take_succ_cons, List.take_zero, Act.put, List.setIfInBounds_toArray, List.set_cons_zero, List.set_cons_succ, Nat.reduceAdd])
            simp only [hd]
            go_wp2_with (first
              | (refine literal_one rfl 24 5 _ rfl (.int .u8 X) rfl rfl undBytes sizeU8X zeroU8X ?_; intro g w3 hg9 hb9 hB9 hs9)
              | fail)
            exact ⟨rfl, ⟨g, rfl, hb9⟩, hS.below hB9, hB9⟩
          · (intro vs w2 hS hU hd; simp [Region.binds, Fact.at] at hd; simp only [fill, List.take_succ_cons, List.take_zero, Act.put, List.setIfInBounds_toArray, List.set_cons_zero, List.set_cons_succ, Nat.reduceAdd])
            obtain ⟨h0, ⟨gl, h1, h2⟩⟩ := hd
            have hU' : Own w2 w.heap.size 5 .u8 u9 XT := hU
            simp only [h0, h1]
            go_wp2_with (first
              | (at_builtin; refine append_list rfl (.tmp 29) (.tmp 39) 24 rfl w.heap.size 5 .u8 1 undBytes infoU8 u9 XT rfl hU' (some ⟨gl, 0, none⟩) 1 1 [X] rfl rfl (by simp) (Rd.ofBlk h2) (by have := hlo.out; simp; omega) (by have := hlo.out; simp; omega) hS.bel.size ?_; intro v9 w3 ho9 hg9; rw [← hXb.out, ← hXT.out, ← xor1To_succ] at ho9)
              | fail)
            exact ⟨rfl, ho9, hS.grown hU' hg9, hg9⟩
          · (intro vs w2 hS hU hd; simp [Region.binds, Fact.at] at hd; simp only [fill, List.take_succ_cons, List.take_zero, Act.put, List.setIfInBounds_toArray, List.set_cons_zero, List.set_cons_succ, Nat.reduceAdd])
            go_wp2_with fail
            exact ⟨rfl, hd.1, hS, Below.refl _ _⟩
        · intro vs wq hf hS
          have h15 : Own wq w.heap.size 5 .u8 (vs 12) (xor1To key c nonce xs (i + 1)) := hf 12 (by simp) rfl
          simp only [fill, Act.put, List.setIfInBounds_toArray, List.set_cons_zero, List.set_cons_succ, Nat.reduceAdd]
          clear hf
          go_wp2_with fail
          go_roundg (gk - 1)
          case measure => have := hgq.out; omega
          case rel =>
            refine ⟨i + 1, by omega, by go_num, hid (by have := hgq.out; omega), h15, nb, hbl, hid ?_, hS⟩
            have := hqr.out
            by_cases h63 : r = 63
            · exact .inl (by omega)
            · exact .inr (by rw [show (i + 1) / 64 = q by omega]; exact hnb.out)
      · have a5 : ¬ ((r : Int) = 0) := by omega
        replace hbe : Hd (bl = block key (ctr c q) nonce) := hid (by
          have := hqr.out
          rcases hbe.out with h | h
          · omega
          · rw [h, show i / 64 = q by omega])
        have hbx : Hd (xorByte key c nonce xs i = bits .xor .u8 (rd xs i) (rd bl r)) := hid (by
          have e1 : i / 64 = q := by have := hqr.out; omega
          have e2 : i % 64 = r := by have := hqr.out; omega
          rw [xorByte, e1, e2, hbe.out])
        go_wp2_with fail
        obtain ⟨g, o, rfl⟩ := HR.out.at (by rw [← HM.out]; omega)
        obtain ⟨X, hXb⟩ : ∃ X, Hd (xorByte key c nonce xs i = X) := ⟨_, hid rfl⟩
        obtain ⟨XT, hXT⟩ : ∃ XT, Hd (xor1To key c nonce xs i = XT) := ⟨_, hid rfl⟩
        rw [hXT.out] at ho hlo
        clear a2
        have a2 : (i : Int).tmod 64 = (r : Int) := by
          have := hqr.out
          rw [Int.tmod_eq_emod_of_nonneg (by omega)]
          omega
        refine wp_region_factsU (ix := [[0], [1], [2], [3], [4], [5], [6], [7], [8], [9], [10], [11], [12]]) (S := fun w' => XB w w' g4 g6 g10 key nonce bl)
          (R := fun iO w1 w2 => if iO = 11 then w1.grownBy w2 u9.ownBlock else (Below w1.heap.size w1 w2))
          (U := fun iO w1 => match iO with
            | 11 => Own w1 w.heap.size 5 .u8 u9 XT
            | _ => True)
          (kill := fun jO => match jO with
            | 10 => some 11
            | _ => none)
          (p := fun jO vs w' => match jO with
            | 0 => vs 0 = u9
            | 1 => vs 1 = .slice (some ⟨g, o, none⟩) m cap
            | 2 => vs 2 = .int .i64 i
            | 3 => vs 3 = .pointer (some ⟨g, o + i, none⟩)
            | 4 => vs 4 = .int .u8 (rd xs i)
            | 5 => vs 5 = .int .i64 i
            | 6 => vs 6 = .int .i64 r
            | 7 => vs 7 = .pointer (some ⟨g10, r, none⟩)
            | 8 => vs 8 = .int .u8 (rd bl r)
            | 9 => vs 9 = .int .u8 X
            | 10 => ∃ g, vs 10 = .slice (some ⟨g, 0, none⟩) 1 1 ∧ Blk w' g 5 (ints .u8 [X])
            | 11 => Own w' w.heap.size 5 .u8 (vs 11) (xor1To key c nonce xs (i + 1))
            | 12 => Own w' w.heap.size 5 .u8 (vs 12) (xor1To key c nonce xs (i + 1))
            | _ => True)
          (ks := [])
          (hm := by kernel_rfl) (hc := by kernel_rfl) ?_ ?_ ?_ ?_ ?_ ?_
        · exact hX.drew
        · intro iO jO vs w1 w2 hij hw hkl hR h
          have hB : iO ≠ 11 → Below w1.heap.size w1 w2 := fun h11 => by rw [if_neg h11] at hR; exact hR
          match jO with
          | 0 | 1 | 2 | 3 | 4 | 5 | 6 | 7 | 8 | 9 => exact h
          | 10 => obtain ⟨g, h1, h2⟩ := h; exact ⟨g, h1, h2.belowAll (hB (by rintro rfl; exact hkl rfl))⟩
          | 11 => exact Own.below h (hB (by rintro rfl; exact hij rfl))
          | 12 => exact Own.below h (hB (by rintro rfl; exact absurd (Eq.trans (by kernel_rfl : true = _) hw) (by decide)))
          | nO + 13 => trivial
        · intro jO
          match jO with
          | 11 => exact ho.drew
          | 0 | 1 | 2 | 3 | 4 | 5 | 6 | 7 | 8 | 9 | 10 | 12 | nO + 13 => trivial
        · intro iO jO w1 w2 hij hw hR h
          have hB : iO ≠ 11 → Below w1.heap.size w1 w2 := fun h11 => by rw [if_neg h11] at hR; exact hR
          match jO with
          | 11 => exact Own.below h (hB (fun he => hij he))
          | 0 | 1 | 2 | 3 | 4 | 5 | 6 | 7 | 8 | 9 | 10 | 12 | nO + 13 => trivial
        · refine ⟨?_, ?_, ?_, ?_, ?_, ?_, ?_, ?_, ?_, ?_, ?_, ?_, ?_, trivial⟩
          · (intro vs w2 hS hU hd; simp [Region.binds, Fact.at] at hd; simp only [fill, List.take_succ_cons, List.take_zero, Act.put, List.setIfInBounds_toArray, List.set_cons_zero, List.set_cons_succ, Nat.reduceAdd])
            try simp only [hd]
            go_wp2_with fail
            exact ⟨rfl, rfl, hS, Below.refl _ _⟩
          · (intro vs w2 hS hU hd; simp [Region.binds, Fact.at] at hd; simp only [fill, List.take_succ_cons, List.take_zero, Act.put, List.setIfInBounds_toArray, List.set_cons_zero, List.set_cons_succ, Nat.reduceAdd])
            try simp only [hd]
            go_wp2_with fail
            exact ⟨rfl, rfl, hS, Below.refl _ _⟩
          · (intro vs w2 hS hU hd; simp [Region.binds, Fact.at] at hd; simp only [fill, List.take_succ_cons, List.take_zero, Act.put, List.setIfInBounds_toArray, List.set_cons_zero, List.set_cons_succ, Nat.reduceAdd])
            try simp only [hd]
            go_wp2_with fail
            exact ⟨rfl, rfl, hS, Below.refl _ _⟩
          · (intro vs w2 hS hU hd; simp [Region.binds, Fact.at] at hd; simp only [fill, List.take_succ_cons, List.take_zero, Act.put, List.setIfInBounds_toArray, List.set_cons_zero, List.set_cons_succ, Nat.reduceAdd])
            simp only [hd]
            go_wp2_with fail
            exact ⟨rfl, rfl, hS, Below.refl _ _⟩
          · (intro vs w2 hS hU hd; simp [Region.binds, Fact.at] at hd; simp only [fill, List.take_succ_cons, List.take_zero, Act.put, List.setIfInBounds_toArray, List.set_cons_zero, List.set_cons_succ, Nat.reduceAdd])
            have cx := (HR.out.below hS.bel).cellAt i (by rw [← HM.out]; omega)
            simp only [hd]
            go_wp2_with fail
            exact ⟨rfl, rfl, hS, Below.refl _ _⟩
          · (intro vs w2 hS hU hd; simp [Region.binds, Fact.at] at hd; simp only [fill, List.take_succ_cons, List.take_zero, Act.put, List.setIfInBounds_toArray, List.set_cons_zero, List.set_cons_succ, Nat.reduceAdd])
            try simp only [hd]
            go_wp2_with fail
            exact ⟨rfl, rfl, hS, Below.refl _ _⟩
          · (intro vs w2 hS hU hd; simp [Region.binds, Fact.at] at hd; simp only [fill, List.take_succ_cons, List.take_zero, Act.put, List.setIfInBounds_toArray, List.set_cons_zero, List.set_cons_succ, Nat.reduceAdd])
            simp only [hd]
            go_wp2_with fail
            exact ⟨rfl, rfl, hS, Below.refl _ _⟩
          · (intro vs w2 hS hU hd; simp [Region.binds, Fact.at] at hd; simp only [fill, List.take_succ_cons, List.take_zero, Act.put, List.setIfInBounds_toArray, List.set_cons_zero, List.set_cons_succ, Nat.reduceAdd])
            simp only [hd]
            go_wp2_with fail
            exact ⟨rfl, rfl, hS, Below.refl _ _⟩
          · (intro vs w2 hS hU hd; simp [Region.binds, Fact.at] at hd; simp only [fill, List.take_succ_cons, List.take_zero, Act.put, List.setIfInBounds_toArray, List.set_cons_zero, List.set_cons_succ, Nat.reduceAdd])
            have cs := hS.s.cellI r (by rw [hbl.out]; omega)
            simp only [hd]
            go_wp2_with fail
            exact ⟨rfl, rfl, hS, Below.refl _ _⟩
          · (intro vs w2 hS hU hd; simp [Region.binds, Fact.at] at hd; simp only [fill, List.take_succ_cons, List.take_zero, Act.put, List.setIfInBounds_toArray, List.set_cons_zero, List.set_cons_succ, Nat.reduceAdd])
            simp only [hd]
            go_wp2_with fail
            rw [← hXb.out, hbx.out]
            exact ⟨rfl, rfl, hS, Below.refl _ _⟩
          · (intro vs w2 hS hU hd; simp [Region.binds, Fact.at] at hd; simp only [fill, List.take_succ_cons, List.take_zero, Act.put, List.setIfInBounds_toArray, List.set_cons_zero, List.set_cons_succ, Nat.reduceAdd])
            simp only [hd]
            go_wp2_with (first
              | (refine literal_one rfl 24 5 _ rfl (.int .u8 X) rfl rfl undBytes sizeU8X zeroU8X ?_; intro g w3 hg9 hb9 hB9 hs9)
              | fail)
            exact ⟨rfl, ⟨g, rfl, hb9⟩, hS.below hB9, hB9⟩
          · (intro vs w2 hS hU hd; simp [Region.binds, Fact.at] at hd; simp only [fill, List.take_succ_cons, List.take_zero, Act.put, List.setIfInBounds_toArray, List.set_cons_zero, List.set_cons_succ, Nat.reduceAdd])
            obtain ⟨h0, ⟨gl, h1, h2⟩⟩ := hd
            have hU' : Own w2 w.heap.size 5 .u8 u9 XT := hU
            simp only [h0, h1]
            go_wp2_with (first
              | (at_builtin; refine append_list rfl (.tmp 29) (.tmp 39) 24 rfl w.heap.size 5 .u8 1 undBytes infoU8 u9 XT rfl hU' (some ⟨gl, 0, none⟩) 1 1 [X] rfl rfl (by simp) (Rd.ofBlk h2) (by have := hlo.out; simp; omega) (by have := hlo.out; simp; omega) hS.bel.size ?_; intro v9 w3 ho9 hg9; rw [← hXb.out, ← hXT.out, ← xor1To_succ] at ho9)
              | fail)
            exact ⟨rfl, ho9, hS.grown hU' hg9, hg9⟩
          · (intro vs w2 hS hU hd; simp [Region.binds, Fact.at] at hd; simp only [fill, List.take_succ_cons, List.take_zero, Act.put, List.setIfInBounds_toArray, List.set_cons_zero, List.set_cons_succ, Nat.reduceAdd])
            go_wp2_with fail
            exact ⟨rfl, hd.1, hS, Below.refl _ _⟩
        · intro vs wq hf hS
          have h15 : Own wq w.heap.size 5 .u8 (vs 12) (xor1To key c nonce xs (i + 1)) := hf 12 (by simp) rfl
          simp only [fill, Act.put, List.setIfInBounds_toArray, List.set_cons_zero, List.set_cons_succ, Nat.reduceAdd]
          clear hf
          go_wp2_with fail
          go_roundg (gk - 1)
          case measure => have := hgq.out; omega
          case rel =>
            refine ⟨i + 1, by omega, by go_num, hid (by have := hgq.out; omega), h15, bl, hbl, hid ?_, hS⟩
            have := hqr.out
            by_cases h63 : r = 63
            · exact .inl (by omega)
            · exact .inr (by rw [show (i + 1) / 64 = q by omega]; exact hbe.out)
    · obtain rfl : i = m := by omega
      have a1 : ¬ ((i : Int) < i) := by omega
      go_wp2_with fail
      go_ret
      refine ⟨_, rfl, ?_, hX.bel⟩
      rw [← xor1To_all, ← HM.out]
      exact ho
end Go.Proofs.YtlikinglgegclaaDoor
/- The reference's seal and its opening. -/
namespace Go.Proofs.YtlikinglgegclaaDoor
open Go.RowKit Go.Cour
theorem gap_ltR (n : Nat) : gap n < 16 := Nat.mod_lt _ (by decide)
theorem padTo_lenR (xs b : List Int) : (padTo xs b).length = xs.length + b.length + gap b.length := by simp [padTo]; omega
theorem padTo_modR (xs b : List Int) (hx : xs.length % 16 = 0) : (padTo xs b).length % 16 = 0 := by
  rw [padTo_lenR]; unfold gap; omega
theorem snoc_zeroR (xs : List Int) (j : Nat) : xs ++ List.replicate j 0 ++ [0] = xs ++ List.replicate (j + 1) (0 : Int) := by
  rw [List.append_assoc, List.replicate_succ']
def onceTo (S : List Int) (i : Nat) : List Int := S.take i ++ List.replicate (32 - i) 0
theorem onceTo_length (S : List Int) (i : Nat) (h : i ≤ 32) (hs : 32 ≤ S.length) : (onceTo S i).length = 32 := by simp [onceTo]; omega
theorem onceTo_set (S : List Int) (i : Nat) (h : i < 32) (hs : 32 ≤ S.length) : (onceTo S i).set i (rd S i) = onceTo S (i + 1) := by
  have hl : (S.take i).length = i := by rw [List.length_take]; omega
  unfold onceTo
  rw [List.set_append_right _ _ (by omega), hl, Nat.sub_self, show 32 - i = (32 - (i + 1)) + 1 by omega, List.replicate_succ, List.set_cons_zero, List.take_add_one, List.append_assoc]
  congr 1
  have hlx : i < S.length := by omega
  rw [List.getElem?_eq_getElem hlx]
  simp [rd, hlx]
theorem onceTo_all (S : List Int) : onceTo S 32 = S.take 32 := by simp [onceTo]
theorem bytesOk_app {xs ys : List Int} (hx : bytesOk xs) (hy : bytesOk ys) : bytesOk (xs ++ ys) := fun i => by
  rw [rd_app]
  split
  · exact hx _
  · exact hy _
theorem bytesOk_nil : bytesOk [] := fun i => by
  have : rd [] i = 0 := by unfold rd; rfl
  omega
theorem bytesOk_lenTo (n k : Nat) : bytesOk (lenTo n k) := fun i => by
  unfold lenTo rd
  rw [List.getD_eq_getElem?_getD, List.getElem?_map]
  cases (List.range k)[i]? with
  | none => simp
  | some j => simp only [Option.map_some, Option.getD_some]; exact ⟨Int.emod_nonneg _ (by decide), Int.emod_lt_of_pos _ (by decide)⟩
theorem bytesOk_padTo {xs ys : List Int} (hx : bytesOk xs) (hy : bytesOk ys) : bytesOk (padTo xs ys) := bytesOk_app (bytesOk_app hx hy) (bytesOk_zeros' _)
theorem bytesOk_tagText {ad b : List Int} (ha : bytesOk ad) (hb : bytesOk b) : bytesOk (tagText ad b) := bytesOk_app (bytesOk_app (bytesOk_padTo (bytesOk_padTo bytesOk_nil ha) hb) (bytesOk_lenTo _ _)) (bytesOk_lenTo _ _)
/-- What the blocks of a call hold. -/
structure TG (w wr : World) (g4 g5 g8 : Nat) (key nonce : List Int) : Prop where
  k : Blk wr g4 27 (ints .u8 key)
  n : Blk wr g5 91 (ints .u8 nonce)
  t : Blk wr g8 125 (ints .u8 (List.replicate 16 0))
  bel : Below w.heap.size w wr
theorem TG.below {w wr wx : World} {g4 g5 g8 : Nat} {key nonce : List Int} (h : TG w wr g4 g5 g8 key nonce) (hb : Below wr.heap.size wr wx) : TG w wx g4 g5 g8 key nonce :=
  ⟨h.k.belowAll hb, h.n.belowAll hb, h.t.belowAll hb, below_then h.bel h.bel.size hb⟩
theorem TG.other {w wr : World} {g4 g5 g8 g : Nat} {key nonce : List Int} (h : TG w wr g4 g5 g8 key nonce) (h4 : g4 < g) (h5 : g5 < g) (h8 : g8 < g) (hw : w.heap.size ≤ g) (cs : Array Value) : TG w (wr.setRow g cs) g4 g5 g8 key nonce :=
  ⟨h.k.setRowOther (by omega) _, h.n.setRowOther (by omega) _, h.t.setRowOther (by omega) _, below_setRow h.bel hw _⟩
theorem TG.otherC {w wr : World} {g4 g5 g8 g : Nat} {key nonce : List Int} (h : TG w wr g4 g5 g8 key nonce) (h4 : g4 < g) (h5 : g5 < g) (h8 : g8 < g) (hw : w.heap.size ≤ g) (i : Nat) (v : Value) : TG w (wr.setCell ⟨g, i, none⟩ v) g4 g5 g8 key nonce :=
  ⟨h.k.setOther (by simp; omega) _, h.n.setOther (by simp; omega) _, h.t.setOther (by simp; omega) _, h.bel.setCell (by simp; omega) _⟩
theorem TG.grown {w wr wx : World} {g4 g5 g8 B : Nat} {key nonce ts : List Int} {v : Value} (h : TG w wr g4 g5 g8 key nonce) (ho : Own wr B 5 .u8 v ts) (hg : wr.grownBy wx v.ownBlock) (h4 : g4 < B) (h5 : g5 < B) (h8 : g8 < B) (hw : w.heap.size ≤ B) : TG w wx g4 g5 g8 key nonce :=
  ⟨h.k.grown hg (fun he => ho.ne_lt h4 he.symm), h.n.grown hg (fun he => ho.ne_lt h5 he.symm), h.t.grown hg (fun he => ho.ne_lt h8 he.symm), ho.grown_below h.bel hg h.bel.size hw⟩
set_option maxHeartbeats 8000000 in
set_option maxRecDepth 100000 in
theorem tagged1_calls (key nonce ad b : List Int) (A A' : Option Addr) (c c' n n' : Nat) (w : World) (hk : key.length = 32) (hnl : nonce.length = 12) (rk : bytesOk key) (rn : bytesOk nonce)
    (hn : n = ad.length) (hr : Rd w A .u8 ad) (ra : bytesOk ad) (hn' : n' = b.length) (hA' : A' = none → c' = 0) (hr' : Rd w A' .u8 b) (rb : bytesOk b) (hla : ad.length ≤ 100000) (hlb : b.length ≤ 100000) :
    Calls Tryd.prog 70 #[.agg (ints .u8 key).toArray, .agg (ints .u8 nonce).toArray, .slice A n c, .slice A' n' c'] w fun e w' => e = .returned (.agg (ints .u8 (tagOf key nonce ad b)).toArray) ∧ Below w.heap.size w w' := by
  have HK := hid hk
  have HNL := hid hnl
  have HN := hid hn
  have HN' := hid hn'
  have HR := hid hr
  have HR' := hid hr'
  have hnb : n ≤ 100000 := by omega
  have hnb' : n' ≤ 100000 := by omega
  obtain ⟨S, hS⟩ : ∃ S, Hd (block key 0 nonce = S) := ⟨_, ⟨rfl⟩⟩
  have hSl : Hd (S.length = 64) := hid (by rw [← hS.out]; exact block_length _ _ _)
  have rS : bytesOk S := by rw [← hS.out]; exact block_ok _ _ _
  have hTG : Hd (tagT (S.take 32) (tagText ad b) = tagOf key nonce ad b) := hid (by
    rw [tagOf, hS.out]
    exact tagT_eq _ _ (by rw [List.length_take, hSl.out]; rfl) (bytesOk_take rS 32) (bytesOk_tagText ra rb))
  have rM : bytesOk (tagText ad b) := bytesOk_tagText ra rb
  clear hk hnl hn hn' hr hr'
  go_enter Tryd.func70, Tryd.ntmps70
  go_wp2_with (first
    | (refine box_blk rfl 27 _ rfl _ rfl (ints .u8 key) rfl ?_; intro g4 w1 hg4 hb4 hB1 hs1)
    | (refine box_blk rfl 91 _ rfl _ rfl (ints .u8 nonce) rfl ?_; intro g5 w2 hg5 hb5 hB2 hs2)
    | (refine alloc_blk rfl 125 rfl _ rfl (ints .u8 (List.replicate 16 0)) zeroT16 ?_; intro g8 w3 hg8 hb8 hB3 hs3
       have hz : Hd (w.heap.size ≤ g4 ∧ g4 < g5 ∧ g5 < g8) := hid (by omega)
       have hT : TG w w3 g4 g5 g8 key nonce := ⟨(hb4.belowAll hB2).belowAll hB3, hb5.belowAll hB3, hb8, below_then (below_then hB1 hB1.size hB2) (by omega) hB3⟩
       clear hg4 hb4 hB1 hs1 hg5 hb5 hB2 hs2 hg8 hb8 hB3 hs3)
    | (refine load_blk rfl 27 _ rfl g4 rfl 27 _ hT.k 32 5 arr23 (by simpa using HK.out) info23 ?_)
    | (refine load_blk rfl 91 _ rfl g5 rfl 91 _ hT.n 12 5 arr24 (by simpa using HNL.out) info24 ?_)
    | (go_at_call 89; refine (block1_calls key nonce 0 _ HK.out HNL.out rk rn (by omega)).mono ?_; rintro e w4 ⟨he4, hB4⟩; rw [hS.out] at he4; subst he4
       replace hT := hT.below hB4)
    | (refine alloc_blk rfl 142 rfl _ rfl (ints .u8 (List.replicate 64 0)) (by kernel_rfl) ?_; intro g9 w5 hg9 hb9 hB5 hs5)
    | (refine store_blk rfl 142 _ _ rfl g9 (ints .u8 S) rfl rfl 142 _ hb9 64 info44 (by simpa using hSl.out) (by simp) (ints_one _ _) ?_
       have hz9 : Hd (g8 < g9) := hid (by have := hT.t.lt; omega)
       replace hT := (hT.below hB5).other (g := g9) (by have := hz.out; have := hz9.out; omega) (by have := hz.out; have := hz9.out; omega) (by have := hz9.out; omega) (by have := hz.out; have := hz9.out; omega) (ints .u8 S).toArray
       replace hb9 := hb9.setRow (ints .u8 S)
       clear hB5 hg9 hs5
       generalize w5.setRow g9 (ints .u8 S).toArray = w6 at *)
    | (refine alloc_blk rfl 27 rfl _ rfl (ints .u8 (onceTo S 0)) (by kernel_rfl) ?_; intro g10 w7 hg10 hb10 hB7 hs7)
    | fail)
  have hz10 : Hd (g9 < g10) := hid (by have := hb9.lt; omega)
  replace hb9 := hb9.belowAll hB7
  replace hT := hT.below hB7
  clear hB7 hg10 hs7
  go_loopg [11] 33 (fun kq v11 wr => ∃ i : Nat, i ≤ 32 ∧ v11 = .int .i64 i ∧ Hd (kq + i = 33) ∧ TG w wr g4 g5 g8 key nonce ∧ Blk wr g9 142 (ints .u8 S) ∧ Blk wr g10 27 (ints .u8 (onceTo S i)))
  case atStart => exact ⟨0, by omega, rfl, hid (by omega), hT, hb9, hb10⟩
  case round =>
    clear hT hb9 hb10
    obtain ⟨i, hi, rfl, hq, hT, hb9, hb10⟩ := hrel
    have hlt10 : Hd (g10 < wr.heap.size) := hid hb10.lt
    obtain ⟨O, hO⟩ : ∃ O, Hd (onceTo S i = O) := ⟨_, ⟨rfl⟩⟩
    have hOl : Hd (O.length = 32) := hid (by rw [← hO.out]; exact onceTo_length S i hi (by rw [hSl.out]; omega))
    rw [hO.out] at hb10
    by_cases hlt : i < 32
    · have a1 : (i : Int) < 32 := by omega
      have a2 : (i : Int) < 64 := by omega
      have cs := hb9.cellI i (by rw [hSl.out]; omega)
      have co := hb10.cellI i (by rw [hOl.out]; omega)
      have fo := hb10.frozen i
      have hOn : Hd (O.set i (rd S i) = onceTo S (i + 1)) := hid (by rw [← hO.out, onceTo_set S i hlt (by rw [hSl.out]; omega)])
      go_wp2_with fail
      go_roundg (gk - 1)
      case measure => have := hq.out; omega
      case rel =>
        have hx := hz.out
        have hx2 := hz9.out
        have hx3 := hz10.out
        refine ⟨i + 1, by omega, by go_num, hid (by have := hq.out; omega), hT.otherC (by omega) (by omega) (by omega) (by omega) i _, hb9.setOther (by simp; omega) _, ?_⟩
        rw [← hOn.out]
        exact hb10.setI i _
    · obtain rfl : i = 32 := by omega
      have hO32 : Hd (S.take 32 = O) := hid (by rw [← hO.out, onceTo_all])
      rw [hO32.out] at hTG
      clear hlt hi hb9 hq
      go_wp2_with (first
        | (go_at_call 23; refine (bytes_calls ad A c n wr HN.out (HR.out.below hT.bel) (by omega)).mono ?_
           rintro e w9 ⟨v12, rfl, ho, hB9⟩)
        | fail)
      replace hT := hT.below hB9
      replace hb10 := hb10.belowAll hB9
      obtain ⟨B, hBe⟩ : ∃ B, Hd (wr.heap.size = B) := ⟨_, ⟨rfl⟩⟩
      rw [hBe.out] at ho
      have hBs : B ≤ w9.heap.size := by rw [← hBe.out]; exact hB9.size
      have hBx : Hd (g4 < B ∧ g5 < B ∧ g8 < B ∧ w.heap.size ≤ B ∧ g10 < B) := hid (by
        have h1 := hz.out
        have h2 := hz9.out
        have h3 := hz10.out
        have h4 := hlt10.out
        rw [hBe.out] at h4
        omega)
      clear hB9 hBe
      obtain ⟨G, hGe⟩ : ∃ G, Hd (gap n = G) := ⟨_, ⟨rfl⟩⟩
      have hGl : G < 16 := by rw [← hGe.out]; exact gap_ltR n
      have hGG : Hd (∀ j, j ≤ G → ((ad.length + j) % 16 = 0 ↔ j = G)) := hid (fun j hj => by
        have h1 := hGe.out
        have h2 := HN.out
        unfold gap at h1
        omega)
      have hLG : Hd (ad.length ≤ 100000) := hid (by rw [← HN.out]; omega)
      go_loopg [12] (G + 1) (fun kq v12 wr => ∃ j : Nat, j ≤ G ∧ Hd (kq + j = G + 1) ∧ Own wr B 5 .u8 v12 (ad ++ List.replicate j 0) ∧ TG w wr g4 g5 g8 key nonce ∧ Blk wr g10 27 (ints .u8 O) ∧ B ≤ wr.heap.size)
      case atStart => exact ⟨0, by omega, hid (by omega), by simpa using ho, hT, hb10, hBs⟩
      case round =>
        clear ho hT hb10 hBs
        obtain ⟨j, hj, hq, ho, hT, hb10, hBs⟩ := hrel
        obtain ⟨ts, hts⟩ : ∃ ts, Hd (ad ++ List.replicate j 0 = ts) := ⟨_, ⟨rfl⟩⟩
        have hlen : Hd (ts.length ≤ 100016) := hid (by rw [← hts.out, List.length_append, List.length_replicate]; have := hLG.out; omega)
        rw [hts.out] at ho
        obtain ⟨A1, c1, hv, hc1, hA1, hr1⟩ := id ho.parts
        obtain ⟨L, hL⟩ : ∃ L, Hd (ts.length = L) := ⟨_, ⟨rfl⟩⟩
        rw [hL.out] at hv hc1
        have hmod : L % 16 = 0 ↔ j = G := by
          have e : L = (ad).length + j := by rw [← hL.out, ← hts.out, List.length_append, List.length_replicate]
          rw [e]; exact hGG.out j hj
        subst hv
        obtain ⟨r, hr⟩ : ∃ r : Nat, Hd (L % 16 = r) := ⟨_, ⟨rfl⟩⟩
        have h1 : (L : Int).tmod 16 = (r : Int) := by rw [Int.tmod_eq_emod_of_nonneg (by omega), ← hr.out]; omega
        have h1' : (L : Int) % 16 = (r : Int) := by rw [← hr.out]; omega
        have HR1 := hid hr1
        clear hr1
        by_cases hlt : j < G
        · have hr0 : ((r : Int) != 0) = true := by have := hr.out; have := hmod; rw [bne_iff_ne]; omega
          have hr0' : ((r : Int) == 0) = false := by have := hr.out; have := hmod; rw [beq_eq_false_iff_ne]; omega
          have hts1 : Hd (ts ++ [0] = ad ++ List.replicate (j + 1) 0) := hid (by rw [← hts.out, snoc_zeroR])
          have HJ := hid hlt
          clear hmod hlt
          go_wp2_with (first
            | (at_builtin; refine append_one rfl (.tmp 33) (.tmp 34) 24 rfl B 5 .u8 1 undBytes infoU8 _ ts rfl ho 0 rfl (by have := hlen.out; omega) (by have := hlen.out; omega) hBs ?_; intro v' w2 ho' hg'; rw [hts1.out] at ho')
            | fail)
          go_roundg (gk - 1)
          case measure => have := hq.out; omega
          case rel => have hx := hBx.out; exact ⟨j + 1, by have := HJ.out; omega, hid (by have := hq.out; omega), ho', hT.grown ho hg' hx.1 hx.2.1 hx.2.2.1 hx.2.2.2.1, hb10.grown hg' (fun he => ho.ne_lt hx.2.2.2.2 he.symm), Nat.le_trans hBs hg'.size⟩
        · have hjg : j = G := by omega
          have hr0 : ((r : Int) != 0) = false := by have := hr.out; have := hmod; rw [bne_eq_false_iff_eq]; omega
          have hr0' : ((r : Int) == 0) = true := by have := hr.out; have := hmod; rw [beq_iff_eq]; omega
          clear hmod hlt
          subst hjg
          have hM1 : Hd (padTo [] ad = ts) := hid (by rw [← hts.out, padTo, List.nil_append, ← HN.out, hGe.out])
          obtain ⟨M2, hM2⟩ : ∃ M2, Hd (ts ++ b = M2) := ⟨_, ⟨rfl⟩⟩
          go_wp2_with (first
            | (at_builtin; refine append_list rfl (.tmp 36) (.tmp 37) 24 rfl B 5 .u8 1 undBytes infoU8 _ ts rfl ho A' n' c' b rfl HN'.out hA' (HR'.out.below hT.bel) (by rw [← HN'.out]; have := hlen.out; omega) (by rw [← HN'.out]; have := hlen.out; omega) hBs ?_; intro v2 w2 ho2 hg2; rw [hM2.out] at ho2)
            | fail)
          have hx := hBx.out
          replace hT := hT.grown ho hg2 hx.1 hx.2.1 hx.2.2.1 hx.2.2.2.1
          replace hb10 := hb10.grown hg2 (fun he => ho.ne_lt hx.2.2.2.2 he.symm)
          replace hBs := Nat.le_trans hBs hg2.size
          obtain ⟨H, hHe⟩ : ∃ H, Hd (gap n' = H) := ⟨_, ⟨rfl⟩⟩
          have hHl : H < 16 := by rw [← hHe.out]; exact gap_ltR n'
          have hM2l : Hd (M2.length = ts.length + n') := hid (by rw [← hM2.out, List.length_append, ← HN'.out])
          have htm : Hd (ts.length % 16 = 0) := hid (by rw [← hM1.out]; exact padTo_modR [] ad rfl)
          have hGH : Hd (∀ j, j ≤ H → ((M2.length + j) % 16 = 0 ↔ j = H)) := hid (fun j hj => by
            have h1 := hHe.out
            have h2 := hM2l.out
            have h3 := htm.out
            unfold gap at h1
            omega)
          have hLH : Hd (M2.length ≤ 200030) := hid (by have := hM2l.out; have := hlen.out; omega)
          clear ho hM2l htm hlen hts
          have ho := ho2
          clear ho2 hg2
          go_loopg [12] (H + 1) (fun kq v12 wr => ∃ j : Nat, j ≤ H ∧ Hd (kq + j = H + 1) ∧ Own wr B 5 .u8 v12 (M2 ++ List.replicate j 0) ∧ TG w wr g4 g5 g8 key nonce ∧ Blk wr g10 27 (ints .u8 O) ∧ B ≤ wr.heap.size)
          case atStart => exact ⟨0, by omega, hid (by omega), by simpa using ho, hT, hb10, hBs⟩
          case round =>
            clear ho hT hb10 hBs
            obtain ⟨j, hj, hq, ho, hT, hb10, hBs⟩ := hrel
            obtain ⟨ts, hts⟩ : ∃ ts, Hd (M2 ++ List.replicate j 0 = ts) := ⟨_, ⟨rfl⟩⟩
            have hlen : Hd (ts.length ≤ 200050) := hid (by rw [← hts.out, List.length_append, List.length_replicate]; have := hLH.out; omega)
            rw [hts.out] at ho
            obtain ⟨A1, c1, hv, hc1, hA1, hr1⟩ := id ho.parts
            obtain ⟨L, hL⟩ : ∃ L, Hd (ts.length = L) := ⟨_, ⟨rfl⟩⟩
            rw [hL.out] at hv hc1
            have hmod : L % 16 = 0 ↔ j = H := by
              have e : L = (M2).length + j := by rw [← hL.out, ← hts.out, List.length_append, List.length_replicate]
              rw [e]; exact hGH.out j hj
            subst hv
            obtain ⟨r, hr⟩ : ∃ r : Nat, Hd (L % 16 = r) := ⟨_, ⟨rfl⟩⟩
            have h1 : (L : Int).tmod 16 = (r : Int) := by rw [Int.tmod_eq_emod_of_nonneg (by omega), ← hr.out]; omega
            have h1' : (L : Int) % 16 = (r : Int) := by rw [← hr.out]; omega
            have HR1 := hid hr1
            clear hr1
            by_cases hlt : j < H
            · have hr0 : ((r : Int) != 0) = true := by have := hr.out; have := hmod; rw [bne_iff_ne]; omega
              have hr0' : ((r : Int) == 0) = false := by have := hr.out; have := hmod; rw [beq_eq_false_iff_ne]; omega
              have hts1 : Hd (ts ++ [0] = M2 ++ List.replicate (j + 1) 0) := hid (by rw [← hts.out, snoc_zeroR])
              have HJ := hid hlt
              clear hmod hlt
              go_wp2_with (first
                | (at_builtin; refine append_one rfl (.tmp 43) (.tmp 44) 24 rfl B 5 .u8 1 undBytes infoU8 _ ts rfl ho 0 rfl (by have := hlen.out; omega) (by have := hlen.out; omega) hBs ?_; intro v' w2 ho' hg'; rw [hts1.out] at ho')
                | fail)
              go_roundg (gk - 1)
              case measure => have := hq.out; omega
              case rel => have hx := hBx.out; exact ⟨j + 1, by have := HJ.out; omega, hid (by have := hq.out; omega), ho', hT.grown ho hg' hx.1 hx.2.1 hx.2.2.1 hx.2.2.2.1, hb10.grown hg' (fun he => ho.ne_lt hx.2.2.2.2 he.symm), Nat.le_trans hBs hg'.size⟩
            · have hjg : j = H := by omega
              have hr0 : ((r : Int) != 0) = false := by have := hr.out; have := hmod; rw [bne_eq_false_iff_eq]; omega
              have hr0' : ((r : Int) == 0) = true := by have := hr.out; have := hmod; rw [beq_iff_eq]; omega
              clear hmod hlt
              subst hjg
              obtain ⟨M3, hM3⟩ : ∃ M3, Hd (padTo (padTo [] ad) b = M3) := ⟨_, ⟨rfl⟩⟩
              have hts3 : Hd (ts = M3) := hid (by rw [← hts.out, ← hM3.out, padTo, ← hM2.out, ← hM1.out, ← HN'.out, hHe.out])
              have hM3l : Hd (M3.length ≤ 200050) := hid (by rw [← hts3.out]; exact hlen.out)
              rw [hts3.out] at ho
              clear hts hts3 hL hM1 hM2
              go_wp2_with fail
              go_loopg [12, 13] 9 (fun kq v12 v13 wr => ∃ j : Nat, j ≤ 8 ∧ v13 = .int .i64 j ∧ Hd (kq + j = 9) ∧ Own wr B 5 .u8 v12 (M3 ++ lenTo n j) ∧ TG w wr g4 g5 g8 key nonce ∧ Blk wr g10 27 (ints .u8 O) ∧ B ≤ wr.heap.size)
              case atStart => exact ⟨0, by omega, rfl, hid (by omega), by simpa [lenTo] using ho, hT, hb10, hBs⟩
              case round =>
                clear ho hT hb10 hBs
                obtain ⟨j, hj, rfl, hq, ho, hT, hb10, hBs⟩ := hrel
                obtain ⟨ts, hts⟩ : ∃ ts, Hd (M3 ++ lenTo n j = ts) := ⟨_, ⟨rfl⟩⟩
                have hlen : Hd (ts.length ≤ 200060) := hid (by rw [← hts.out, List.length_append, lenTo_length]; have := hM3l.out; omega)
                rw [hts.out] at ho
                by_cases hlt : j < 8
                · have hts1 : Hd (ts ++ [(n : Int) / 2 ^ (8 * j) % 256] = M3 ++ lenTo n (j + 1)) := hid (by rw [← hts.out, lenTo_succ, ← List.append_assoc])
                  go_wp2_with (first
                    | (at_builtin; refine append_one rfl (.tmp 50) (.tmp 59) 24 rfl B 5 .u8 1 undBytes infoU8 _ ts rfl ho _ rfl (by have := hlen.out; omega) (by have := hlen.out; omega) hBs ?_; intro v' w2 ho' hg')
                    | fail)
                  rw [hts1.out] at ho'
                  go_roundg (gk - 1)
                  case measure => have := hq.out; omega
                  case rel => have hx := hBx.out; exact ⟨j + 1, by omega, by go_num, hid (by have := hq.out; omega), ho', hT.grown ho hg' hx.1 hx.2.1 hx.2.2.1 hx.2.2.2.1, hb10.grown hg' (fun he => ho.ne_lt hx.2.2.2.2 he.symm), Nat.le_trans hBs hg'.size⟩
                · obtain rfl : j = 8 := by omega
                  clear hlt hj hq
                  obtain ⟨M4, hM4⟩ : ∃ M4, Hd (M3 ++ lenTo n 8 = M4) := ⟨_, ⟨rfl⟩⟩
                  have hts4 : Hd (ts = M4) := hid (by rw [← hts.out, hM4.out])
                  have hM4l : Hd (M4.length ≤ 200060) := hid (by rw [← hts4.out]; exact hlen.out)
                  rw [hts4.out] at ho
                  clear hts hts4 hlen
                  go_wp2_with fail
                  go_loopg [12, 14] 9 (fun kq v12 v14 wr => ∃ j : Nat, j ≤ 8 ∧ v14 = .int .i64 j ∧ Hd (kq + j = 9) ∧ Own wr B 5 .u8 v12 (M4 ++ lenTo n' j) ∧ TG w wr g4 g5 g8 key nonce ∧ Blk wr g10 27 (ints .u8 O) ∧ B ≤ wr.heap.size)
                  case atStart => exact ⟨0, by omega, rfl, hid (by omega), by simpa [lenTo] using ho, hT, hb10, hBs⟩
                  case round =>
                    clear ho hT hb10 hBs
                    obtain ⟨j, hj, rfl, hq, ho, hT, hb10, hBs⟩ := hrel
                    obtain ⟨ts, hts⟩ : ∃ ts, Hd (M4 ++ lenTo n' j = ts) := ⟨_, ⟨rfl⟩⟩
                    have hlen : Hd (ts.length ≤ 200080) := hid (by rw [← hts.out, List.length_append, lenTo_length]; have := hM4l.out; omega)
                    rw [hts.out] at ho
                    by_cases hlt : j < 8
                    · have hts1 : Hd (ts ++ [(n' : Int) / 2 ^ (8 * j) % 256] = M4 ++ lenTo n' (j + 1)) := hid (by rw [← hts.out, lenTo_succ, ← List.append_assoc])
                      go_wp2_with (first
                        | (at_builtin; refine append_one rfl (.tmp 65) (.tmp 74) 24 rfl B 5 .u8 1 undBytes infoU8 _ ts rfl ho _ rfl (by have := hlen.out; omega) (by have := hlen.out; omega) hBs ?_; intro v' w2 ho' hg')
                        | fail)
                      rw [hts1.out] at ho'
                      go_roundg (gk - 1)
                      case measure => have := hq.out; omega
                      case rel => have hx := hBx.out; exact ⟨j + 1, by omega, by go_num, hid (by have := hq.out; omega), ho', hT.grown ho hg' hx.1 hx.2.1 hx.2.2.1 hx.2.2.2.1, hb10.grown hg' (fun he => ho.ne_lt hx.2.2.2.2 he.symm), Nat.le_trans hBs hg'.size⟩
                    · obtain rfl : j = 8 := by omega
                      clear hlt hj hq
                      have hM5 : Hd (ts = tagText ad b) := hid (by rw [← hts.out, ← hM4.out, ← hM3.out, tagText, HN.out, HN'.out])
                      clear hM4 hM3 hts
                      obtain ⟨A1, c1, hv, hc1, hA1, hr1⟩ := id ho.parts
                      have hML : Hd (ts.length ≤ 200080) := hid hlen.out
                      obtain ⟨L, hL⟩ : ∃ L, Hd (ts.length = L) := ⟨_, ⟨rfl⟩⟩
                      rw [hL.out] at hv hc1
                      subst hv
                      have rts : bytesOk ts := by rw [hM5.out]; exact rM
                      rw [← hM5.out] at hTG
                      have hOl2 : Hd (O.length = 32) := hid hOl.out
                      have rO : bytesOk O := by rw [← hO32.out]; exact bytesOk_take rS 32
                      go_wp2_with (first
                        | (refine load_blk rfl 27 _ rfl g10 rfl 27 _ hb10 32 5 arr23 (by simpa using hOl2.out) info23 ?_)
                        | (go_at_call 90; refine (tag1_calls O ts A1 L _ wr hOl2.out rO hL.out.symm hr1 rts (by have := hML.out; omega)).mono ?_
                           rintro e w3 ⟨he3, hB3⟩; rw [hTG.out] at he3; subst he3
                           replace hT := hT.below hB3)
                        | (refine store_blk rfl 125 _ _ rfl g8 (ints .u8 (tagOf key nonce ad b)) rfl rfl 125 _ hT.t 16 infoT16 (by simp [ints, tagOf_length]) (by simp) (ints_one _ _) ?_)
                        | fail)
                      refine bodyPost_ret (results_blk rfl _ _ g8 125 _ 16 5 rfl (hT.t.setRow _) undT16 (by simp [ints, tagOf_length]) infoT16) rfl ?_
                      exact ⟨rfl, below_setRow hT.bel (by have := hz.out; omega) _⟩
end Go.Proofs.YtlikinglgegclaaDoor
/- The reference's Seal. -/
namespace Go.Proofs.YtlikinglgegclaaDoor
open Go.RowKit Go.Cour
set_option maxHeartbeats 1000000 in
set_option maxRecDepth 100000 in
theorem seal1_calls (key nonce ad b : List Int) (A A' : Option Addr) (c c' n n' : Nat) (w : World) (hk : key.length = 32) (hnl : nonce.length = 12) (rk : bytesOk key) (rn : bytesOk nonce)
    (hn : n = ad.length) (hr : Rd w A .u8 ad) (ra : bytesOk ad) (hn' : n' = b.length) (hr' : Rd w A' .u8 b) (rb : bytesOk b) (hla : ad.length ≤ 100000) (hlb : b.length ≤ 100000) :
    Calls Tryd.prog 93 #[.agg (ints .u8 key).toArray, .agg (ints .u8 nonce).toArray, .slice A n c, .slice A' n' c'] w fun e w' => ∃ v, e = .returned v ∧ Own w' w.heap.size 5 .u8 v (sealText key nonce ad b) ∧ Below w.heap.size w w' := by
  have HK := hid hk
  have HNL := hid hnl
  have HN := hid hn
  have HR := hid hr
  have HN' := hid hn'
  have HR' := hid hr'
  clear hk hnl hn hr hn' hr'
  obtain ⟨X, hX⟩ : ∃ X, Hd (xorStream key 1 nonce b = X) := ⟨_, hid rfl⟩
  have hXl : Hd (X.length = n') := hid (by rw [← hX.out, xorStream_length, HN'.out])
  have rX : bytesOk X := by rw [← hX.out]; exact xorStream_ok key 1 nonce b rb
  obtain ⟨T, hT⟩ : ∃ T, Hd (tagOf key nonce ad X = T) := ⟨_, hid rfl⟩
  have hTl : Hd (T.length = 16) := hid (by rw [← hT.out]; exact tagOf_length _ _ _ _)
  have hXT : Hd (X ++ T = sealText key nonce ad b) := hid (by rw [sealText, hX.out, hT.out])
  have hlb' : n' ≤ 100000 := by rw [HN'.out]; exact hlb
  go_enter Tryd.func93, Tryd.ntmps93
  go_wp2_with (first
    | (refine box_blk rfl 27 _ rfl _ rfl (ints .u8 key) rfl ?_; intro g4 w1 hg4 hb4 hB1 hs1)
    | (refine box_blk rfl 91 _ rfl _ rfl (ints .u8 nonce) rfl ?_; intro g5 w2 hg5 hb5 hB2 hs2
       replace hb4 := hb4.belowAll hB2
       have hBa : Below w.heap.size w w2 := below_then hB1 hB1.size hB2
       clear hB1 hB2 hg4 hg5 hs1 hs2)
    | (refine load_blk rfl 27 _ rfl g4 rfl 27 _ hb4 32 5 arr23 (by simpa using HK.out) info23 ?_)
    | (refine load_blk rfl 91 _ rfl g5 rfl 91 _ hb5 12 5 arr24 (by simpa using HNL.out) info24 ?_)
    | (go_at_call 71; refine (xor1_calls key nonce b 1 A' n' c' w2 HN'.out HK.out HNL.out rk rn (by omega) (HR'.out.below hBa) (by omega)).mono ?_
       rintro e w3 ⟨v, rfl, ho, hB3⟩
       rw [hX.out] at ho
       replace hb4 := hb4.belowAll hB3
       replace hb5 := hb5.belowAll hB3
       have hBb : Below w.heap.size w w3 := below_then hBa hBa.size hB3
       obtain ⟨A1, c1, hv, hc1, hA1, hr1⟩ := id ho.parts
       rw [hXl.out] at hv hc1
       subst hv
       clear hB3)
    | (go_at_call 70; refine (tagged1_calls key nonce ad X A A1 c c1 n n' w3 HK.out HNL.out rk rn HN.out (HR.out.below hBb) ra hXl.out.symm hA1 hr1 rX hla (by rw [hXl.out]; exact hlb')).mono ?_
       rintro e w4 ⟨he4, hB4⟩
       rw [hT.out] at he4
       subst he4)
    | (refine alloc_blk rfl 125 rfl _ rfl (ints .u8 (List.replicate 16 0)) zeroT16 ?_; intro g10 w5 hg10 hb10 hB5 hs5)
    | (refine store_blk rfl 125 _ _ rfl g10 (ints .u8 T) rfl rfl 125 _ hb10 16 infoT16 (by simpa using hTl.out) (by simp) (ints_one _ _) ?_
       replace hb10 := hb10.setRow (ints .u8 T)
       have hBc : Below w3.heap.size w3 (w5.setRow g10 (ints .u8 T).toArray) := below_then hB4 hB4.size (below_setRow hB5 (by omega) _)
       clear hB4 hB5 hg10 hs5
       generalize w5.setRow g10 (ints .u8 T).toArray = w6 at *
       have ho2 := (ho.below hBc).lower hBa.size
       have hBd : Below w.heap.size w w6 := below_then hBb hBb.size hBc)
    | (at_builtin; refine append_list rfl (.tmp 20) (.tmp 21) 24 rfl w.heap.size 5 .u8 1 undBytes infoU8 _ X rfl ho2 (some ⟨g10, 0, none⟩) 16 16 T rfl hTl.out.symm (by intro h; cases h) (Rd.ofBlk hb10) (by rw [hXl.out, hTl.out]; omega) (by rw [hXl.out, hTl.out]; omega) hBd.size ?_; intro v1 w7 ho7 hg7)
    | fail)
  go_ret
  refine ⟨v1, by simp, ?_, ?_⟩
  · rw [← hXT.out]; exact ho7
  · exact ho2.grown_below hBd hg7 hBd.size (Nat.le_refl _)
end Go.Proofs.YtlikinglgegclaaDoor
/- courierref16's chunks: one, Count, Piece, nonce, Seal. -/
namespace Go.Proofs.YtlikinglgegclaaDoor
open Go.RowKit Go.Cour
attribute [local go_sem] max2_int min2_int
theorem one16_calls (q : Int) (w : World) : Calls Tryd.prog 92 #[.int .i64 q] w fun e w' => e = .returned (.int .i64 (max q 1)) ∧ w' = w := by
  obtain ⟨c, hc⟩ : ∃ c : Int, max q 1 = c := ⟨_, rfl⟩
  have m1 : (if q < 1 then (1 : Int) else q) = c := by split <;> omega
  rw [hc]
  clear hc
  go_enter Tryd.func92, Tryd.ntmps92
  go_wp2_with fail
  go_ret
  exact ⟨rfl, rfl⟩
set_option maxHeartbeats 400000 in
theorem count16_calls (p q : Int) (w : World) (hp : 0 ≤ p ∧ p ≤ 1000000) (hq : -1000000 ≤ q ∧ q ≤ 1000000) :
    Calls Tryd.prog 79 #[.int .i64 p, .int .i64 q] w fun e w' => e = .returned (.int .i64 (countI p q)) ∧ w' = w := by
  obtain ⟨c, hc⟩ : ∃ c : Int, Hd (max q 1 = c) := ⟨_, hid rfl⟩
  obtain ⟨d, hd⟩ : ∃ d : Int, p / c = d := ⟨_, rfl⟩
  obtain ⟨r, hr⟩ : ∃ r : Int, p % c = r := ⟨_, rfl⟩
  have c1 : 1 ≤ c := by have := hc.out; omega
  have c2 : c ≤ 1000000 := by have := hc.out; omega
  have d0 : 0 ≤ d := hd ▸ Int.ediv_nonneg hp.1 (by omega)
  have d1 : d ≤ p := hd ▸ Int.ediv_le_self _ hp.1
  have r0 : 0 ≤ r := hr ▸ Int.emod_nonneg p (by omega)
  have r1 : r < c := hr ▸ Int.emod_lt_of_pos p (by omega)
  have hdr : Hd (d * c + r = p) := hid (by rw [← hd, ← hr, Int.mul_comm]; exact Int.mul_ediv_add_emod p c)
  have t1 : p.tdiv c = d := by rw [Int.tdiv_eq_ediv_of_nonneg hp.1, hd]
  have t2 : p.tmod c = r := by rw [Int.tmod_eq_emod_of_nonneg hp.1, hr]
  have hco : Hd (countI p q = countD p d (d * c)) := hid (by rw [countI, hc.out, show max p 0 = p by omega, hd])
  have hcz : (c == 0) = false := by rw [beq_eq_false_iff_ne]; omega
  have p0 := hp.1
  have p1 := hp.2
  rw [hco.out]
  unfold countD
  by_cases hlt : 0 < r
  · rw [if_pos (by have := hdr.out; omega)]
    have m3 : max (d + 1) 1 = d + 1 := by omega
    rw [m3]
    go_enter Tryd.func79, Tryd.ntmps79
    go_wp2_with (first
      | (go_at_call 92; refine (one16_calls q _).mono ?_; rintro e w2 ⟨rfl, rfl⟩; rw [hc.out])
      | fail)
    go_ret
    exact ⟨rfl, rfl⟩
  · rw [if_neg (by have := hdr.out; omega)]
    by_cases h1 : 1 ≤ d
    · have m3 : max d 1 = d := by omega
      rw [m3]
      go_enter Tryd.func79, Tryd.ntmps79
      go_wp2_with (first
        | (go_at_call 92; refine (one16_calls q _).mono ?_; rintro e w2 ⟨rfl, rfl⟩; rw [hc.out])
        | fail)
      go_ret
      exact ⟨rfl, rfl⟩
    · have hd0 : d = 0 := by omega
      subst hd0
      rw [show max (0 : Int) 1 = 1 from rfl]
      go_enter Tryd.func79, Tryd.ntmps79
      go_wp2_with (first
        | (go_at_call 92; refine (one16_calls q _).mono ?_; rintro e w2 ⟨rfl, rfl⟩; rw [hc.out])
        | fail)
      go_ret
      exact ⟨rfl, rfl⟩
set_option maxHeartbeats 400000 in
set_option maxRecDepth 100000 in
theorem piece16_calls (xs : List Int) (A : Option Addr) (n cap : Nat) (q i : Int) (w : World) (hn : n = xs.length) (hcap : n ≤ cap) (hr : Rd w A .u8 xs) (hl : xs.length ≤ 100000)
    (hq : -1000000 ≤ q ∧ q ≤ 1000000) (hi : -1000000 ≤ i ∧ i ≤ 1000000) :
    Calls Tryd.prog 81 #[.slice A n cap, .int .i64 q, .int .i64 i] w fun e w' => ∃ v, e = .returned v ∧ Own w' w.heap.size 5 .u8 v (pieceOf xs q i) ∧ Below w.heap.size w w' := by
  have HN := hid hn
  have HR := hid hr
  rw [← hn] at hl
  clear hn hr
  obtain ⟨c, hc⟩ : ∃ c : Int, Hd (max q 1 = c) := ⟨_, hid rfl⟩
  have c1 : 1 ≤ c := by have := hc.out; omega
  have c2 : c ≤ 1000000 := by have := hc.out; omega
  obtain ⟨d, hd⟩ : ∃ d : Int, Hd ((n : Int) / c = d) := ⟨_, ⟨rfl⟩⟩
  have hpc : pieceOf xs q i = if i < 0 ∨ d < i then [] else (xs.drop (i * c).toNat).take c.toNat := by rw [pieceOf, hc.out, ← HN.out, hd.out]
  rw [hpc]
  clear hpc
  have w1 : ((n : Int)).tdiv c = d := by rw [Int.tdiv_eq_ediv_of_nonneg (by omega), hd.out]
  have w1' := hd.out
  have hcz : (c == 0) = false := by rw [beq_eq_false_iff_ne]; omega
  have hd0 : 0 ≤ d := by rw [← hd.out]; exact Int.ediv_nonneg (by omega) (by omega)
  have hdn : d ≤ n := by rw [← hd.out]; exact Int.ediv_le_self _ (by omega)
  by_cases h0 : i < 0
  · rw [if_pos (.inl h0)]
    go_enter Tryd.func81, Tryd.ntmps81
    go_wp2_with (first
      | (go_at_call 92; refine (one16_calls q _).mono ?_; rintro e w2 ⟨rfl, rfl⟩; rw [hc.out])
      | fail)
    go_ret
    exact ⟨_, rfl, Own.nil _ _ _ _, Below.refl _ _⟩
  · by_cases h1 : d < i
    · rw [if_pos (.inr h1)]
      go_enter Tryd.func81, Tryd.ntmps81
      go_wp2_with (first
        | (go_at_call 92; refine (one16_calls q _).mono ?_; rintro e w2 ⟨rfl, rfl⟩; rw [hc.out])
        | fail)
      go_ret
      exact ⟨_, rfl, Own.nil _ _ _ _, Below.refl _ _⟩
    · rw [if_neg (by omega)]
      obtain ⟨f, hf⟩ : ∃ f : Nat, Hd ((f : Int) = i * c) := ⟨(i * c).toNat, ⟨Int.toNat_of_nonneg (Int.mul_nonneg (by omega) (by omega))⟩⟩
      have hfn : f ≤ n := by
        have h3 : i * c ≤ d * c := Int.mul_le_mul_of_nonneg_right (by omega) (by omega)
        have h4 : d * c ≤ n := hd.out ▸ Int.ediv_mul_le _ (by omega)
        have h5 := hf.out
        generalize i * c = ic at *
        generalize d * c = dc at *
        omega
      have w2 : wrap64 (i * c) = (f : Int) := by rw [← hf.out]; exact IntWalk.wrap64_in _ (by omega)
      by_cases hfe : n ≤ f
      · have hfe2 : (n : Int) ≤ f := by omega
        have hp : (xs.drop (i * c).toNat).take c.toNat = [] := by rw [← hf.out, Int.toNat_natCast, List.drop_eq_nil_of_le (by rw [← HN.out]; exact hfe), List.take_nil]
        rw [hp]
        go_enter Tryd.func81, Tryd.ntmps81
        go_wp2_with (first
          | (go_at_call 92; refine (one16_calls q _).mono ?_; rintro e w2 ⟨rfl, rfl⟩; rw [hc.out])
          | fail)
        go_ret
        exact ⟨_, rfl, Own.nil _ _ _ _, Below.refl _ _⟩
      · have hfe2 : ¬ (n : Int) ≤ f := by omega
        obtain ⟨k, hk⟩ : ∃ k : Nat, Hd (k = min c.toNat (n - f)) := ⟨_, ⟨rfl⟩⟩
        have hkn : f + k ≤ n := by have := hk.out; omega
        have hp : Hd ((xs.drop (i * c).toNat).take c.toNat = (xs.drop f).take k) := ⟨by
          rw [← hf.out, Int.toNat_natCast, hk.out]
          rcases Nat.le_total c.toNat (n - f) with h | h
          · rw [Nat.min_eq_left h]
          · rw [Nat.min_eq_right h, List.take_of_length_le (by rw [List.length_drop, ← HN.out]; exact h), List.take_of_length_le (by rw [List.length_drop, ← HN.out]; exact Nat.le_refl _)]⟩
        rw [hp.out]
        have m2 := min_k1 n f k c c1 hk.out hfn
        have m3 := min_k2 n f k c c1 hk.out hfn
        have hlen : Hd (k = ((xs.drop f).take k).length) := ⟨by rw [List.length_take, List.length_drop, ← HN.out]; omega⟩
        have hcf : ¬ cap = f := by omega
        go_enter Tryd.func81, Tryd.ntmps81
        go_wp2_with (first
          | (go_at_call 92; refine (one16_calls q _).mono ?_; rintro e w2 ⟨rfl, rfl⟩; rw [hc.out])
          | (go_at_call 23; refine (bytes_calls ((xs.drop f).take k) _ _ _ _ hlen.out ((rd_sliceC HR.out f).take k) (by omega)).mono ?_; rintro e w' ⟨v, rfl, ho, hb⟩)
          | fail)
        go_ret
        exact ⟨_, rfl, ho, hb⟩
set_option maxHeartbeats 400000 in
set_option maxRecDepth 100000 in
theorem nonce16_calls (i : Int) (last : Bool) (w : World) (hi : 0 ≤ i ∧ i < 4294967296) :
    Calls Tryd.prog 42 #[.int .u32 i, .bool last] w fun e w' => e = .returned (.agg (ints .u8 (nonceOf i last)).toArray) ∧ Below w.heap.size w w' := by
  cases last
  · go_enter Tryd.func42, Tryd.ntmps42
    go_wp2_with (first
    | (refine store_blk rfl 91 _ _ rfl g1 (ints .u8 [0, 0, 0, 0, 0, 0, 0, i / 16777216, i / 65536 % 256, i / 256 % 256, i % 256, 0]) rfl rfl 91 _ hb1'' 12 infoN12 (by simp [ints]) (by simp [ints]) (ints_one _ _) ?_)
    | (refine load_blk rfl 91 _ rfl g2 rfl 91 _ hb4 12 5 undN12 (by simp [ints]) infoN12 ?_)
    | (refine store_blk rfl 91 _ _ rfl g2 (ints .u8 [0, 0, 0, 0, 0, 0, 0, i / 16777216, i / 65536 % 256, i / 256 % 256, i % 256, 0]) rfl rfl 91 _ hb2 12 infoN12 (by simp [ints]) (by simp [ints]) (ints_one _ _) ?_
       have hb3 := hb2.setRow (ints .u8 [0, 0, 0, 0, 0, 0, 0, i / 16777216, i / 65536 % 256, i / 256 % 256, i % 256, 0])
       have hb1' := (hb1.belowAll hB2).setRowOther (g' := g2) (by have := hb1.lt; omega) (ints .u8 [0, 0, 0, 0, 0, 0, 0, i / 16777216, i / 65536 % 256, i / 256 % 256, i % 256, 0]).toArray
       have hB3 := below_setRow (below_then hB1 hB1.size hB2) (g := g2) (by have := hB1.size; omega) (ints .u8 [0, 0, 0, 0, 0, 0, 0, i / 16777216, i / 65536 % 256, i / 256 % 256, i % 256, 0]).toArray
       generalize World.setRow w2 _ _ = w3 at *
       have hb4 := hb3
       have hb1'' := hb1'
       have hB4 := hB3)
    | (have hx := hb1; refine alloc_blk rfl 91 rfl _ rfl (ints .u8 (List.replicate 12 0)) zeroN12 ?_; clear hx; intro g2 w2 hg2 hb2 hB2 hs2)
    | (refine alloc_blk rfl 91 rfl _ rfl (ints .u8 (List.replicate 12 0)) zeroN12 ?_; intro g1 w1 hg1 hb1 hB1 hs1)
    | fail)
    refine bodyPost_ret (results_blk rfl _ _ g1 91 _ 12 5 rfl (hb1''.setRow (ints .u8 [0, 0, 0, 0, 0, 0, 0, i / 16777216, i / 65536 % 256, i / 256 % 256, i % 256, 0])) undN12 (by simp [ints]) infoN12) rfl ?_
    exact ⟨rfl, below_setRow hB4 (by omega) _⟩
  · go_enter Tryd.func42, Tryd.ntmps42
    go_wp2_with (first
    | (refine store_blk rfl 91 _ _ rfl g1 (ints .u8 [0, 0, 0, 0, 0, 0, 0, i / 16777216, i / 65536 % 256, i / 256 % 256, i % 256, 1]) rfl rfl 91 _ hb1'' 12 infoN12 (by simp [ints]) (by simp [ints]) (ints_one _ _) ?_)
    | (refine load_blk rfl 91 _ rfl g2 rfl 91 _ hb4 12 5 undN12 (by simp [ints]) infoN12 ?_)
    | (refine store_blk rfl 91 _ _ rfl g2 (ints .u8 [0, 0, 0, 0, 0, 0, 0, i / 16777216, i / 65536 % 256, i / 256 % 256, i % 256, 0]) rfl rfl 91 _ hb2 12 infoN12 (by simp [ints]) (by simp [ints]) (ints_one _ _) ?_
       have hb3 := hb2.setRow (ints .u8 [0, 0, 0, 0, 0, 0, 0, i / 16777216, i / 65536 % 256, i / 256 % 256, i % 256, 0])
       have hb1' := (hb1.belowAll hB2).setRowOther (g' := g2) (by have := hb1.lt; omega) (ints .u8 [0, 0, 0, 0, 0, 0, 0, i / 16777216, i / 65536 % 256, i / 256 % 256, i % 256, 0]).toArray
       have hB3 := below_setRow (below_then hB1 hB1.size hB2) (g := g2) (by have := hB1.size; omega) (ints .u8 [0, 0, 0, 0, 0, 0, 0, i / 16777216, i / 65536 % 256, i / 256 % 256, i % 256, 0]).toArray
       generalize World.setRow w2 _ _ = w3 at *
       have fx := hb3.frozen 11
       have cx := hb3.cellI 11 (by simp)
       have hb4 : Blk (w3.setCell ⟨g2, 11, none⟩ (.int .u8 1)) g2 91 (ints .u8 [0, 0, 0, 0, 0, 0, 0, i / 16777216, i / 65536 % 256, i / 256 % 256, i % 256, 1]) := hb3.setI 11 1
       have hb1'' : Blk (w3.setCell ⟨g2, 11, none⟩ (.int .u8 1)) g1 91 (ints .u8 (List.replicate 12 0)) := hb1'.setOther (by have := hb1.lt; simp; omega) _
       have hB4 : Below w.heap.size w (w3.setCell ⟨g2, 11, none⟩ (.int .u8 1)) := hB3.setCell (by have := hB1.size; simp; omega) _)
    | (have hx := hb1; refine alloc_blk rfl 91 rfl _ rfl (ints .u8 (List.replicate 12 0)) zeroN12 ?_; clear hx; intro g2 w2 hg2 hb2 hB2 hs2)
    | (refine alloc_blk rfl 91 rfl _ rfl (ints .u8 (List.replicate 12 0)) zeroN12 ?_; intro g1 w1 hg1 hb1 hB1 hs1)
    | fail)
    refine bodyPost_ret (results_blk rfl _ _ g1 91 _ 12 5 rfl (hb1''.setRow (ints .u8 [0, 0, 0, 0, 0, 0, 0, i / 16777216, i / 65536 % 256, i / 256 % 256, i % 256, 1])) undN12 (by simp [ints]) infoN12) rfl ?_
    exact ⟨rfl, below_setRow hB4 (by omega) _⟩
set_option maxHeartbeats 400000 in
set_option maxRecDepth 100000 in
theorem sseal16_calls (key : List Int) (i : Int) (last : Bool) (b : List Int) (A : Option Addr) (n c : Nat) (w : World) (hk : key.length = 32) (rk : bytesOk key) (hi : 0 ≤ i ∧ i < 4294967296)
    (hn : n = b.length) (hr : Rd w A .u8 b) (rb : bytesOk b) (hlb : b.length ≤ 100000) :
    Calls Tryd.prog 80 #[.agg (ints .u8 key).toArray, .int .u32 i, .bool last, .slice A n c] w fun e w' => ∃ v, e = .returned v ∧ Own w' w.heap.size 5 .u8 v (ssealText key i last b) ∧ Below w.heap.size w w' := by
  subst hn
  go_enter Tryd.func80, Tryd.ntmps80
  go_wp2_with (first
    | (refine box_blk rfl 27 _ rfl _ rfl (ints .u8 key) rfl ?_; intro g4 w1 hg4 hb4 hB1 hs1; clear hg4 hs1)
    | fail)
  refine wp_region_facts (ix := [[0], [1], [2], [3], [4], [5], [6]]) (S := fun w' => Blk w' g4 27 (ints .u8 key) ∧ Below w.heap.size w w')
    (R := fun w1 w2 => Below w1.heap.size w1 w2)
    (p := fun j vs w' => match j with
      | 0 => vs 0 = .agg (ints .u8 key).toArray
      | 1 => vs 1 = .int .u32 i
      | 2 => vs 2 = .bool last
      | 3 => vs 3 = .agg (ints .u8 (nonceOf i last)).toArray
      | 4 => vs 4 = .slice A b.length c
      | 5 => Own w' w.heap.size 5 .u8 (vs 5) (ssealText key i last b)
      | 6 => Own w' w.heap.size 5 .u8 (vs 6) (ssealText key i last b)
      | _ => True)
    (by kernel_rfl) (by kernel_rfl) ?_ ?_ ?_ ?_
  · exact ⟨hb4.drew, below_drewN hB1 1⟩
  · intro j vs w1 w2 hR h
    match j with
    | 0 | 1 | 2 | 3 | 4 => exact h
    | 5 => exact Own.below h hR
    | 6 => exact Own.below h hR
    | n + 7 => trivial
  · refine ⟨?_, ?_, ?_, ?_, ?_, ?_, ?_, trivial⟩
    · (intro vs w2 hS hd; simp [Region.binds, Fact.at] at hd; simp only [fill, List.take_succ_cons, List.take_zero, Act.put, List.setIfInBounds_toArray, List.set_cons_zero, List.set_cons_succ, Nat.reduceAdd])
      try simp only [hd]
      go_wp2_with (first
        | (refine load_blk rfl 27 _ rfl g4 rfl 27 _ hS.1 32 5 arr23 (by simp [ints, hk]) info23 ?_)
        | fail)
      exact ⟨rfl, rfl, hS, Below.refl _ _⟩
    · (intro vs w2 hS hd; simp [Region.binds, Fact.at] at hd; simp only [fill, List.take_succ_cons, List.take_zero, Act.put, List.setIfInBounds_toArray, List.set_cons_zero, List.set_cons_succ, Nat.reduceAdd])
      try simp only [hd]
      go_wp2_with fail
      exact ⟨rfl, rfl, hS, Below.refl _ _⟩
    · (intro vs w2 hS hd; simp [Region.binds, Fact.at] at hd; simp only [fill, List.take_succ_cons, List.take_zero, Act.put, List.setIfInBounds_toArray, List.set_cons_zero, List.set_cons_succ, Nat.reduceAdd])
      try simp only [hd]
      go_wp2_with fail
      exact ⟨rfl, rfl, hS, Below.refl _ _⟩
    · (intro vs w2 hS hd; simp [Region.binds, Fact.at] at hd; simp only [fill, List.take_succ_cons, List.take_zero, Act.put, List.setIfInBounds_toArray, List.set_cons_zero, List.set_cons_succ, Nat.reduceAdd])
      simp only [hd]
      go_wp2_with (first
        | (go_at_call 42; refine (nonce16_calls i last w2 hi).mono ?_; rintro e w3 ⟨rfl, hB⟩)
        | fail)
      exact ⟨rfl, rfl, ⟨hS.1.belowAll hB, below_then hS.2 hS.2.size hB⟩, hB⟩
    · (intro vs w2 hS hd; simp [Region.binds, Fact.at] at hd; simp only [fill, List.take_succ_cons, List.take_zero, Act.put, List.setIfInBounds_toArray, List.set_cons_zero, List.set_cons_succ, Nat.reduceAdd])
      try simp only [hd]
      go_wp2_with fail
      exact ⟨rfl, rfl, hS, Below.refl _ _⟩
    · (intro vs w2 hS hd; simp [Region.binds, Fact.at] at hd; simp only [fill, List.take_succ_cons, List.take_zero, Act.put, List.setIfInBounds_toArray, List.set_cons_zero, List.set_cons_succ, Nat.reduceAdd])
      simp only [hd]
      go_wp2_with (first
        | (go_at_call 93; refine (seal1_calls key (nonceOf i last) [] b none A 0 c 0 b.length w2 hk (nonceOf_length _ _) rk (nonceOf_ok i last hi) rfl (Rd.nil _ _ _) (fun j => by simp [rd]) rfl (hr.below hS.2) rb (by simp) hlb).mono ?_; rintro e w3 ⟨v, rfl, ho, hB⟩)
        | fail)
      exact ⟨rfl, ho.lower hS.2.size, ⟨hS.1.belowAll hB, below_then hS.2 hS.2.size hB⟩, hB⟩
    · (intro vs w2 hS hd; simp [Region.binds, Fact.at] at hd; simp only [fill, List.take_succ_cons, List.take_zero, Act.put, List.setIfInBounds_toArray, List.set_cons_zero, List.set_cons_succ, Nat.reduceAdd])
      go_wp2_with fail
      exact ⟨rfl, hd.1, hS, Below.refl _ _⟩
  · intro vs wq hf hS
    have h6 : Own wq w.heap.size 5 .u8 (vs 6) (ssealText key i last b) := hf 6 (by simp)
    simp only [fill, Act.put, List.setIfInBounds_toArray, List.set_cons_zero, List.set_cons_succ, Nat.reduceAdd]
    clear hf
    go_wp2_with fail
    go_ret
    exact ⟨_, rfl, h6, hS.2⟩
end Go.Proofs.YtlikinglgegclaaDoor
/- courierref16.All. -/
namespace Go.Proofs.YtlikinglgegclaaDoor
open Go.RowKit Go.Cour
theorem bytesOk_piece {xs : List Int} {q i : Int} (h : bytesOk xs) : bytesOk (pieceOf xs q i) := by
  unfold pieceOf
  split
  · exact fun j => by simp [rd]
  · exact bytesOk_take (bytesOk_drop h _) _
set_option maxHeartbeats 800000 in
set_option maxRecDepth 100000 in
theorem all16_calls (key xs : List Int) (q : Int) (A : Option Addr) (m c : Nat) (w : World) (hk : key.length = 32) (rk : bytesOk key)
    (rx : bytesOk xs) (hm : m = xs.length) (hA : A = none → c = 0) (hc : m ≤ c) (hr : Rd w A .u8 xs) (hl : xs.length ≤ 100000) (hq : -1000000 ≤ q ∧ q ≤ 1000000) :
    Calls Tryd.prog 57 #[.agg (ints .u8 key).toArray, .slice A m c, .int .i64 q] w fun e w' => ∃ v, e = .returned v ∧ OwnL w' w.heap.size 24 5 .u8 v (allTexts key xs q) ∧ Below w.heap.size w w' := by
  subst hm
  obtain ⟨N, hN⟩ : ∃ N : Nat, Hd (countI xs.length q = (N : Int)) := ⟨(countI xs.length q).toNat, ⟨by have := (countI_bounds xs.length q).1; omega⟩⟩
  have hNb : 1 ≤ N ∧ N ≤ 100000 := by have := countI_bounds xs.length q; have := hN.out; omega
  have hAll : Hd (allTexts key xs q = allTo key xs q N N) := ⟨by rw [allTexts, hN.out]; rfl⟩
  obtain ⟨zs, hzs⟩ : ∃ zs : List Int, Hd (zs = xs) := ⟨xs, ⟨rfl⟩⟩
  go_enter Tryd.func57, Tryd.ntmps57
  go_wp2_with (first
    | (refine box_blk rfl 27 _ rfl _ rfl (ints .u8 key) rfl ?_; intro g4 w1 hg4 hb4 hB1 hs1; clear hg4 hs1)
    | (go_at_call 79; refine (count16_calls _ _ _ (by omega) hq).mono ?_; rintro e w2 ⟨rfl, rfl⟩; rw [hN.out])
    | fail)
  go_loopg [7, 9] N (fun kq v8 v15 wr => ∃ i : Nat, i ≤ N ∧ v15 = .int .i64 i ∧ Hd (kq + i = N) ∧ OwnL wr w.heap.size 24 5 .u8 v8 (allTo key xs q N i) ∧ Blk wr g4 27 (ints .u8 key) ∧ Below w.heap.size w wr)
  case atStart => exact ⟨0, by omega, rfl, hid (by omega), OwnL.nil _ _ _ _ _, hb4, hB1⟩
  case round =>
    clear hb4 hB1
    obtain ⟨i, hi, rfl, hgq, ho, hb4, hB⟩ := hrel
    by_cases hlt : i < N
    · have hlt' : (i : Int) < N := by omega
      obtain ⟨L, hL⟩ : ∃ L, ((i : Int) == (N : Int) - 1) = L := ⟨_, rfl⟩
      have HL := hid hL
      obtain ⟨TX, hTX⟩ : ∃ TX, Hd (ssealText key i L (pieceOf xs q i) = TX) := ⟨_, ⟨rfl⟩⟩
      go_wp2_with fail
      refine wp_region_factsU (ix := [[0], [1], [2], [3], [4], [5], [6], [7], [8], [9], [10], [11], [12], [13], [14], [15]]) (S := fun w' => Blk w' g4 27 (ints .u8 key) ∧ Below w.heap.size w w')
        (R := fun iO w1 w2 => if iO = 14 then w1.grownBy w2 u7.ownBlock else (Below w1.heap.size w1 w2))
        (U := fun iO w1 => match iO with
          | 14 => OwnL w1 w.heap.size 24 5 .u8 u7 (allTo key xs q N i)
          | _ => True)
        (kill := fun jO => match jO with
          | 11 => some 14
          | 12 => some 14
          | 13 => some 14
          | _ => none)
        (p := fun jO vs w' => match jO with
          | 0 => vs 0 = u7
          | 1 => vs 1 = .agg (ints .u8 key).toArray
          | 2 => vs 2 = .int .i64 i
          | 3 => vs 3 = .int .u32 i
          | 4 => vs 4 = .int .i64 i
          | 5 => vs 5 = .int .i64 N
          | 6 => vs 6 = .int .i64 ((N : Int) - 1)
          | 7 => vs 7 = .bool L
          | 8 => vs 8 = .slice A xs.length c
          | 9 => vs 9 = .int .i64 q
          | 10 => vs 10 = .int .i64 i
          | 11 => Own w' w.heap.size 5 .u8 (vs 11) (pieceOf xs q i)
          | 12 => Own w' w.heap.size 5 .u8 (vs 12) TX
          | 13 => ∃ g, vs 13 = .slice (some ⟨g, 0, none⟩) 1 1 ∧ ∃ u, Blk w' g 24 [u] ∧ Own w' w.heap.size 5 .u8 u TX
          | 14 => OwnL w' w.heap.size 24 5 .u8 (vs 14) (allTo key xs q N (i + 1))
          | 15 => OwnL w' w.heap.size 24 5 .u8 (vs 15) (allTo key xs q N (i + 1))
          | _ => True)
        (ks := [(11, 12), (12, 13)])
        (hm := by kernel_rfl) (hc := by kernel_rfl) ?_ ?_ ?_ ?_ ?_ ?_
      · exact ⟨hb4.drew, below_drewN hB 1⟩
      · intro iO jO vs w1 w2 hij hw hkl hR h
        have hB : iO ≠ 14 → Below w1.heap.size w1 w2 := fun h14 => by rw [if_neg h14] at hR; exact hR
        match jO with
        | 0 | 1 | 2 | 3 | 4 | 5 | 6 | 7 | 8 | 9 | 10 => exact h
        | 11 => exact Own.below h (hB (by rintro rfl; exact hkl rfl))
        | 12 => exact Own.below h (hB (by rintro rfl; exact hkl rfl))
        | 13 => obtain ⟨g, h1, u, h2, h3⟩ := h; exact ⟨g, h1, u, h2.belowAll (hB (by rintro rfl; exact hkl rfl)), h3.below (hB (by rintro rfl; exact hkl rfl))⟩
        | 14 => exact OwnL.below h (hB (by rintro rfl; exact hij rfl))
        | 15 => exact OwnL.below h (hB (by rintro rfl; exact absurd (Eq.trans (by kernel_rfl : true = _) hw) (by decide)))
        | nO + 16 => trivial
      · intro jO
        match jO with
        | 14 => exact ho.drew
        | 0 | 1 | 2 | 3 | 4 | 5 | 6 | 7 | 8 | 9 | 10 | 11 | 12 | 13 | 15 | nO + 16 => trivial
      · intro iO jO w1 w2 hij hw hR h
        have hB : iO ≠ 14 → Below w1.heap.size w1 w2 := fun h14 => by rw [if_neg h14] at hR; exact hR
        match jO with
        | 14 => exact OwnL.below h (hB (fun he => hij he))
        | 0 | 1 | 2 | 3 | 4 | 5 | 6 | 7 | 8 | 9 | 10 | 11 | 12 | 13 | 15 | nO + 16 => trivial
      · refine ⟨?_, ?_, ?_, ?_, ?_, ?_, ?_, ?_, ?_, ?_, ?_, ?_, ?_, ?_, ?_, ?_, trivial⟩
        · (intro vs w2 hS hU hd; simp [Region.binds, Fact.at] at hd; simp only [fill, List.take_succ_cons, List.take_zero, Act.put, List.setIfInBounds_toArray, List.set_cons_zero, List.set_cons_succ, Nat.reduceAdd])
          try simp only [hd]
          go_wp2_with fail
          exact ⟨rfl, rfl, hS, Below.refl _ _⟩
        · (intro vs w2 hS hU hd; simp [Region.binds, Fact.at] at hd; simp only [fill, List.take_succ_cons, List.take_zero, Act.put, List.setIfInBounds_toArray, List.set_cons_zero, List.set_cons_succ, Nat.reduceAdd])
          try simp only [hd]
          go_wp2_with (first
            | (refine load_blk rfl 27 _ rfl g4 rfl 27 _ hS.1 32 5 arr23 (by simp [ints, hk]) info23 ?_)
            | fail)
          exact ⟨rfl, rfl, hS, Below.refl _ _⟩
        · (intro vs w2 hS hU hd; simp [Region.binds, Fact.at] at hd; simp only [fill, List.take_succ_cons, List.take_zero, Act.put, List.setIfInBounds_toArray, List.set_cons_zero, List.set_cons_succ, Nat.reduceAdd])
          try simp only [hd]
          go_wp2_with fail
          exact ⟨rfl, rfl, hS, Below.refl _ _⟩
        · (intro vs w2 hS hU hd; simp [Region.binds, Fact.at] at hd; simp only [fill, List.take_succ_cons, List.take_zero, Act.put, List.setIfInBounds_toArray, List.set_cons_zero, List.set_cons_succ, Nat.reduceAdd])
          simp only [hd]
          go_wp2_with fail
          exact ⟨rfl, rfl, hS, Below.refl _ _⟩
        · (intro vs w2 hS hU hd; simp [Region.binds, Fact.at] at hd; simp only [fill, List.take_succ_cons, List.take_zero, Act.put, List.setIfInBounds_toArray, List.set_cons_zero, List.set_cons_succ, Nat.reduceAdd])
          try simp only [hd]
          go_wp2_with fail
          exact ⟨rfl, rfl, hS, Below.refl _ _⟩
        · (intro vs w2 hS hU hd; simp [Region.binds, Fact.at] at hd; simp only [fill, List.take_succ_cons, List.take_zero, Act.put, List.setIfInBounds_toArray, List.set_cons_zero, List.set_cons_succ, Nat.reduceAdd])
          try simp only [hd]
          go_wp2_with fail
          exact ⟨rfl, rfl, hS, Below.refl _ _⟩
        · (intro vs w2 hS hU hd; simp [Region.binds, Fact.at] at hd; simp only [fill, List.take_succ_cons, List.take_zero, Act.put, List.setIfInBounds_toArray, List.set_cons_zero, List.set_cons_succ, Nat.reduceAdd])
          simp only [hd]
          go_wp2_with fail
          exact ⟨rfl, rfl, hS, Below.refl _ _⟩
        · (intro vs w2 hS hU hd; simp [Region.binds, Fact.at] at hd; simp only [fill, List.take_succ_cons, List.take_zero, Act.put, List.setIfInBounds_toArray, List.set_cons_zero, List.set_cons_succ, Nat.reduceAdd])
          simp only [hd]
          go_wp2_with fail
          exact ⟨rfl, rfl, hS, Below.refl _ _⟩
        · (intro vs w2 hS hU hd; simp [Region.binds, Fact.at] at hd; simp only [fill, List.take_succ_cons, List.take_zero, Act.put, List.setIfInBounds_toArray, List.set_cons_zero, List.set_cons_succ, Nat.reduceAdd])
          try simp only [hd]
          go_wp2_with fail
          exact ⟨rfl, rfl, hS, Below.refl _ _⟩
        · (intro vs w2 hS hU hd; simp [Region.binds, Fact.at] at hd; simp only [fill, List.take_succ_cons, List.take_zero, Act.put, List.setIfInBounds_toArray, List.set_cons_zero, List.set_cons_succ, Nat.reduceAdd])
          try simp only [hd]
          go_wp2_with fail
          exact ⟨rfl, rfl, hS, Below.refl _ _⟩
        · (intro vs w2 hS hU hd; simp [Region.binds, Fact.at] at hd; simp only [fill, List.take_succ_cons, List.take_zero, Act.put, List.setIfInBounds_toArray, List.set_cons_zero, List.set_cons_succ, Nat.reduceAdd])
          try simp only [hd]
          go_wp2_with fail
          exact ⟨rfl, rfl, hS, Below.refl _ _⟩
        · (intro vs w2 hS hU hd; simp [Region.binds, Fact.at] at hd; simp only [fill, List.take_succ_cons, List.take_zero, Act.put, List.setIfInBounds_toArray, List.set_cons_zero, List.set_cons_succ, Nat.reduceAdd])
          simp only [hd]
          go_wp2_with (first
            | (go_at_call 81; refine (piece16_calls xs A _ c q i w2 rfl hc (hr.below hS.2) hl hq (by omega)).mono ?_; rintro e w3 ⟨v, rfl, ho9, hB9⟩)
            | fail)
          exact ⟨rfl, ho9.lower hS.2.size, ⟨hS.1.belowAll hB9, below_then hS.2 hS.2.size hB9⟩, hB9⟩
        · (intro vs w2 hS hU hd; simp [Region.binds, Fact.at] at hd; simp only [fill, List.take_succ_cons, List.take_zero, Act.put, List.setIfInBounds_toArray, List.set_cons_zero, List.set_cons_succ, Nat.reduceAdd])
          obtain ⟨h1, h3, h7, h11⟩ := hd
          have hpl := Nat.le_trans (pieceOf_le xs q i) hl
          obtain ⟨ps, hps⟩ : ∃ ps, Hd (ps = pieceOf xs q i) := ⟨_, ⟨rfl⟩⟩
          rw [← hps.out] at h11 hpl
          have rps : bytesOk ps := by rw [hps.out]; exact bytesOk_piece rx
          obtain ⟨A1, c1, hv1, hc1, hA1, hr1⟩ := h11.parts
          simp only [h1, h3, h7, hv1]
          go_wp2_with (first
            | (go_at_call 80; refine (sseal16_calls key i L ps A1 _ c1 w2 hk rk (by omega) rfl hr1 rps hpl).mono ?_; rintro e w3 ⟨v, rfl, ho9, hB9⟩; rw [hps.out, hTX.out] at ho9)
            | fail)
          exact ⟨rfl, ho9.lower hS.2.size, ⟨hS.1.belowAll hB9, below_then hS.2 hS.2.size hB9⟩, hB9⟩
        · (intro vs w2 hS hU hd; simp [Region.binds, Fact.at] at hd; simp only [fill, List.take_succ_cons, List.take_zero, Act.put, List.setIfInBounds_toArray, List.set_cons_zero, List.set_cons_succ, Nat.reduceAdd])
          obtain ⟨A1, c1, hv1, hc1, hA1, hr1⟩ := hd.parts
          go_wp2_with (first
            | (refine literal_one rfl 83 24 _ rfl (vs 12) rfl (by rw [hv1]; rfl) undLL sizeBytes zeroBytes ?_; intro g w3 hg9 hb9 hB9 hs9)
            | fail)
          exact ⟨rfl, ⟨g, rfl, vs 12, hb9, hd.below hB9⟩, ⟨hS.1.belowAll hB9, below_then hS.2 hS.2.size hB9⟩, hB9⟩
        · (intro vs w2 hS hU hd; simp [Region.binds, Fact.at] at hd; simp only [fill, List.take_succ_cons, List.take_zero, Act.put, List.setIfInBounds_toArray, List.set_cons_zero, List.set_cons_succ, Nat.reduceAdd])
          obtain ⟨h0, ⟨g, h1, u, h2, h3⟩, _⟩ := hd
          have hU' : OwnL w2 w.heap.size 24 5 .u8 u7 (allTo key xs q N i) := hU
          simp only [h0, h1]
          go_wp2_with (first
            | (at_builtin; refine append_row rfl (.tmp 19) (.tmp 32) 83 rfl w.heap.size 24 5 .u8 24 undLL infoLL (by decide) u7 (allTo key xs q N i) rfl hU' g u TX rfl h2 h3 (by rw [allTo_length]; omega) (by rw [allTo_length]; omega) hS.2.size ?_; intro v9 w3 ho9 hg9; rw [← hTX.out, ← HL.out, ← allTo_succ] at ho9)
            | fail)
          obtain ⟨cs9, hv9, _⟩ := id hU'
          exact ⟨rfl, ho9, ⟨hS.1.grown hg9 (hv9.ne_blk hS.1 (by decide)), hU'.grown_below hS.2 hg9 hS.2.size (Nat.le_refl _)⟩, hg9⟩
        · (intro vs w2 hS hU hd; simp [Region.binds, Fact.at] at hd; simp only [fill, List.take_succ_cons, List.take_zero, Act.put, List.setIfInBounds_toArray, List.set_cons_zero, List.set_cons_succ, Nat.reduceAdd])
          go_wp2_with fail
          exact ⟨rfl, hd.1, hS, Below.refl _ _⟩
      · intro vs wq hf hS
        have h15 : OwnL wq w.heap.size 24 5 .u8 (vs 15) (allTo key xs q N (i + 1)) := hf 15 (by simp) rfl
        simp only [fill, Act.put, List.setIfInBounds_toArray, List.set_cons_zero, List.set_cons_succ, Nat.reduceAdd]
        clear hf hL
        go_wp2_with fail
        go_roundg (gk - 1)
        case measure => have := hgq.out; omega
        case rel => exact ⟨i + 1, by omega, by go_num, hid (by have := hgq.out; omega), h15, hS.1, hS.2⟩
    · obtain rfl : i = N := by omega
      have hlt' : ¬ ((i : Int) < i) := by omega
      go_wp2_with fail
      go_ret
      refine ⟨_, rfl, ?_, hB⟩
      rw [hAll.out]
      exact ho
end Go.Proofs.YtlikinglgegclaaDoor
/- The chunks' texts: how many there are, how long, and that they are bytes. -/
namespace Go.Proofs.YtlikinglgegclaaDoor
open Go.RowKit Go.Cour
theorem B8_of_bytesOk {xs : List Int} (h : bytesOk xs) : ∀ x ∈ xs, B8 x := fun x hx => by
  obtain ⟨i, hi⟩ := List.getElem?_of_mem hx
  have h2 := h i
  unfold rd at h2
  rw [List.getD_eq_getElem?_getD, hi] at h2
  exact h2
theorem pieceOf_chunk (xs : List Int) (q i : Int) (hq : 1 ≤ q) : (pieceOf xs q i).length ≤ q.toNat := by
  unfold pieceOf
  split
  · simp
  · rw [List.length_take, show max q 1 = q by omega]
    exact Nat.min_le_left _ _
theorem bytesOk_pieceR {xs : List Int} {q i : Int} (h : bytesOk xs) : bytesOk (pieceOf xs q i) := by
  unfold pieceOf
  split
  · exact fun j => by simp [rd]
  · exact bytesOk_take (bytesOk_drop h _) _
theorem allTexts_size (key xs : List Int) (q : Int) (h : xs.length ≤ 600) (_ : 1 ≤ q ∧ q ≤ 64) : (allTexts key xs q).length ≤ 600 := by
  rw [allTexts, allTo_length]
  have := countI_bounds xs.length q
  omega
theorem allTexts_ok (key xs : List Int) (q : Int) (rx : bytesOk xs) (hq : 1 ≤ q ∧ q ≤ 64) : ∀ X ∈ allTexts key xs q, X.length ≤ 80 ∧ ∀ x ∈ X, B8 x := fun X hX => by
  unfold allTexts allTo at hX
  obtain ⟨i, _, rfl⟩ := List.mem_map.1 hX
  unfold ssealText
  refine ⟨?_, B8_of_bytesOk (sealText_ok _ _ _ _ (bytesOk_pieceR rx))⟩
  rw [sealText_length]
  have := pieceOf_chunk xs q i hq.1
  omega
end Go.Proofs.YtlikinglgegclaaDoor
