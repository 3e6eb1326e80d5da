/- The reference's XOR. -/
import Derived.Test.YtpmmmbilfblcpaaDoorRefB
import Derived.Test.YtpmmmbilfblcpaaDoorFactsU
import Derived.Test.YtpmmmbilfblcpaaDoorVals
import Derived.Test.YtpmmmbilfblcpaaDoorInv
namespace Go.Proofs.YtpmmmbilfblcpaaDoor
open Go.RowKit Go.Cour
theorem sizeU8X : (Tryd.prog.info? 5).map (·.size) = some 1 := by kernel_rfl
theorem zeroU8X : ((Tryd.prog.info? 5).bind (·.zero)).isSome = true := by kernel_rfl
def xor1To (key : List Int) (c : Int) (nonce xs : List Int) (i : Nat) : List Int := (List.range i).map (xorByte key c nonce xs)
theorem xor1To_succ (key : List Int) (c : Int) (nonce xs : List Int) (i : Nat) : xor1To key c nonce xs (i + 1) = xor1To key c nonce xs i ++ [xorByte key c nonce xs i] := by simp [xor1To, List.range_succ]
theorem xor1To_length (key : List Int) (c : Int) (nonce xs : List Int) (i : Nat) : (xor1To key c nonce xs i).length = i := by simp [xor1To]
theorem xor1To_all (key : List Int) (c : Int) (nonce xs : List Int) : xor1To key c nonce xs xs.length = xorStream key c nonce xs := by
  refine ext_rd (by rw [xor1To_length, xorStream_length]) fun i hi => ?_
  rw [xor1To_length] at hi
  rw [rd_xorStream _ _ _ _ _ hi]
  unfold rd xor1To
  rw [List.getD_eq_getElem?_getD, List.getElem?_map, List.getElem?_range hi]
  rfl
/-- What the blocks of a call hold. -/
structure XB (w wr : World) (g4 g6 g10 : Nat) (key nonce bl : List Int) : Prop where
  k : Blk wr g4 23 (ints .u8 key)
  n : Blk wr g6 24 (ints .u8 nonce)
  s : Blk wr g10 44 (ints .u8 bl)
  bel : Below w.heap.size w wr
theorem XB.below {w wr wx : World} {g4 g6 g10 : Nat} {key nonce bl : List Int} (h : XB w wr g4 g6 g10 key nonce bl) (hb : Below wr.heap.size wr wx) : XB w wx g4 g6 g10 key nonce bl :=
  ⟨h.k.belowAll hb, h.n.belowAll hb, h.s.belowAll hb, below_then h.bel h.bel.size hb⟩
theorem XB.drew {w wr : World} {g4 g6 g10 : Nat} {key nonce bl : List Int} (h : XB w wr g4 g6 g10 key nonce bl) : XB w wr.drew g4 g6 g10 key nonce bl := ⟨h.k.drew, h.n.drew, h.s.drew, below_drewN h.bel 1⟩
theorem XB.put {w wr wx : World} {g4 g6 g10 : Nat} {key nonce bl : List Int} (h : XB w wr g4 g6 g10 key nonce bl) (hb : Below wr.heap.size wr wx) (h4 : g4 ≠ g10) (h6 : g6 ≠ g10) (hw : w.heap.size ≤ g10) (bl' : List Int) :
    XB w (wx.setRow g10 (ints .u8 bl').toArray) g4 g6 g10 key nonce bl' :=
  ⟨(h.k.belowAll hb).setRowOther h4 _, (h.n.belowAll hb).setRowOther h6 _, (h.s.belowAll hb).setRow _, below_setRow (below_then h.bel h.bel.size hb) hw _⟩
theorem XB.grown {w wr wx : World} {g4 g6 g10 : Nat} {key nonce bl xs : List Int} {v : Value} (h : XB w wr g4 g6 g10 key nonce bl) (ho : Own wr w.heap.size 5 .u8 v xs) (hg : wr.grownBy wx v.ownBlock) : XB w wx g4 g6 g10 key nonce bl :=
  ⟨h.k.grown hg (fun he => ho.ne_blk h.k (by decide) he.symm), h.n.grown hg (fun he => ho.ne_blk h.n (by decide) he.symm), h.s.grown hg (fun he => ho.ne_blk h.s (by decide) he.symm), ho.grown_below h.bel hg h.bel.size (Nat.le_refl _)⟩
set_option maxHeartbeats 4000000 in
set_option maxRecDepth 100000 in
theorem xor1_calls (key nonce xs : List Int) (c : Int) (A : Option Addr) (m cap : Nat) (w : World) (hm : m = xs.length) (hk : key.length = 32) (hn : nonce.length = 12) (rk : bytesOk key) (rn : bytesOk nonce) (hc : 0 ≤ c ∧ c < 4294967296)
    (hr : Rd w A .u8 xs) (hl : xs.length ≤ 1000000) :
    Calls Tryd.prog 37 #[.agg (ints .u8 key).toArray, .int .u32 c, .agg (ints .u8 nonce).toArray, .slice A m cap] w fun e w' =>
      ∃ v, e = .returned v ∧ Own w' w.heap.size 5 .u8 v (xorStream key c nonce xs) ∧ Below w.heap.size w w' := by
  have HK := hid hk
  have HN := hid hn
  have HR := hid hr
  have HM := hid hm
  have hmb : m ≤ 1000000 := by omega
  clear hk hn hr hm hl
  go_enter Tryd.func37, Tryd.ntmps37
  go_wp2_with (first
    | (refine box_blk rfl 23 _ rfl _ rfl (ints .u8 key) rfl ?_; intro g4 w1 hg4 hb4 hB1 hs1)
    | (refine box_blk rfl 24 _ rfl _ rfl (ints .u8 nonce) rfl ?_; intro g6 w2 hg6 hb6 hB2 hs2)
    | (refine alloc_blk rfl 44 rfl _ rfl (ints .u8 (List.replicate 64 0)) (by kernel_rfl) ?_; intro g10 w3 hg10 hb10 hB3 hs3)
    | fail)
  have hz : Hd (g4 ≠ g10 ∧ g6 ≠ g10 ∧ w.heap.size ≤ g10) := hid (by omega)
  have hX : XB w w3 g4 g6 g10 key nonce (List.replicate 64 0) := ⟨(hb4.belowAll hB2).belowAll hB3, hb6.belowAll hB3, hb10, below_then (below_then hB1 hB1.size hB2) (by omega) hB3⟩
  clear hg4 hb4 hB1 hs1 hg6 hb6 hB2 hs2 hg10 hb10 hB3 hs3
  go_loopg [9, 11] (m + 1) (fun kq v9 v11 wr => ∃ i : Nat, i ≤ m ∧ v11 = .int .i64 i ∧ Hd (kq + i = m + 1) ∧ Own wr w.heap.size 5 .u8 v9 (xor1To key c nonce xs i) ∧ ∃ bl : List Int, Hd (bl.length = 64) ∧ Hd (i % 64 = 0 ∨ bl = block key (ctr c (i / 64)) nonce) ∧ XB w wr g4 g6 g10 key nonce bl)
  case atStart => exact ⟨0, by omega, rfl, hid (by omega), Own.nil _ _ _ _, _, hid (by simp), hid (.inl rfl), hX⟩
  case round =>
    clear hX
    obtain ⟨i, hi, rfl, hgq, ho, bl, hbl, hbe, hX⟩ := hrel
    by_cases hlt : i < m
    · have a1 : (i : Int) < m := by omega
      obtain ⟨q, r, hqr, hr64⟩ : ∃ q r : Nat, Hd (i = 64 * q + r) ∧ r < 64 := ⟨i / 64, i % 64, hid (by omega), by omega⟩
      have a2 : (i : Int).tmod 64 = (r : Int) := by
        have := hqr.out
        rw [Int.tmod_eq_emod_of_nonneg (by omega)]
        omega
      have a3 : (r : Int) < 64 := by omega
      have hlo : Hd ((xor1To key c nonce xs i).length = i) := hid (xor1To_length _ _ _ _ _)
      by_cases hr0 : r = 0
      · have a4 : IntKind.i64.wrap ((i : Int) / 64) = (q : Int) := by
          have := hqr.out
          rw [IntWalk.i64_in _ (by omega)]
          omega
        have a5 : ((r : Int) = 0) := by omega
        have hbk : Hd ((ints .u8 (block key (ctr c q) nonce)).length = 64) := hid (by simpa using block_length key (ctr c q) nonce)
        obtain ⟨nb, hnb⟩ : ∃ nb, Hd (nb = block key (ctr c q) nonce) := ⟨_, hid rfl⟩
        go_wp2_with (first
          | (refine load_blk rfl 23 _ rfl g4 rfl 23 _ hX.k 32 5 arr23 (by simpa using HK.out) info23 ?_)
          | (refine load_blk rfl 24 _ rfl g6 rfl 24 _ hX.n 12 5 arr24 (by simpa using HN.out) info24 ?_)
          | (go_at_call 53; refine (block1_calls key nonce (ctr c q) _ HK.out HN.out rk rn (ctr_bound c q)).mono ?_; rintro e wx ⟨rfl, hbx⟩; rw [← hnb.out])
          | (refine store_blk rfl 44 _ _ rfl g10 (ints .u8 nb) rfl rfl 44 _ (hX.s.belowAll hbx) 64 info44 (by rw [hnb.out]; exact hbk.out) (by simpa using hbl.out) (ints_one _ _) ?_)
          | fail)
        replace ho := ho.below hbx
        replace ho := ho.setRowOther (ho.ne_blk (hX.s.belowAll hbx) (by decide)) (ints .u8 nb).toArray
        replace hX := hX.put hbx hz.out.1 hz.out.2.1 hz.out.2.2 nb
        clear hbl hbe hbx hbk
        obtain ⟨wo, rfl⟩ : ∃ wo : World, wo = wr := ⟨_, rfl⟩
        clear hr0 a5 a4
        generalize wx.setRow g10 (ints .u8 nb).toArray = wr at ho hX ⊢
        have hbl : Hd (nb.length = 64) := hid (by rw [hnb.out]; exact block_length _ _ _)
        have hbx : Hd (xorByte key c nonce xs i = bits .xor .u8 (rd xs i) (rd nb r)) := hid (by
          have e1 : i / 64 = q := by have := hqr.out; omega
          have e2 : i % 64 = r := by have := hqr.out; omega
          rw [xorByte, e1, e2, hnb.out])
        obtain ⟨g, o, rfl⟩ := HR.out.at (by rw [← HM.out]; omega)
        obtain ⟨X, hXb⟩ : ∃ X, Hd (xorByte key c nonce xs i = X) := ⟨_, hid rfl⟩
        obtain ⟨XT, hXT⟩ : ∃ XT, Hd (xor1To key c nonce xs i = XT) := ⟨_, hid rfl⟩
        rw [hXT.out] at ho hlo
        clear a2
        have a2 : (i : Int).tmod 64 = (r : Int) := by
          have := hqr.out
          rw [Int.tmod_eq_emod_of_nonneg (by omega)]
          omega
        refine wp_region_factsU (ix := [[0], [1], [2], [3], [4], [5], [6], [7], [8], [9], [10], [11], [12]]) (S := fun w' => XB w w' g4 g6 g10 key nonce nb)
          (R := fun iO w1 w2 => if iO = 11 then w1.grownBy w2 u9.ownBlock else (Below w1.heap.size w1 w2))
          (U := fun iO w1 => match iO with
            | 11 => Own w1 w.heap.size 5 .u8 u9 XT
            | _ => True)
          (kill := fun jO => match jO with
            | 10 => some 11
            | _ => none)
          (p := fun jO vs w' => match jO with
            | 0 => vs 0 = u9
            | 1 => vs 1 = .slice (some ⟨g, o, none⟩) m cap
            | 2 => vs 2 = .int .i64 i
            | 3 => vs 3 = .pointer (some ⟨g, o + i, none⟩)
            | 4 => vs 4 = .int .u8 (rd xs i)
            | 5 => vs 5 = .int .i64 i
            | 6 => vs 6 = .int .i64 r
            | 7 => vs 7 = .pointer (some ⟨g10, r, none⟩)
            | 8 => vs 8 = .int .u8 (rd nb r)
            | 9 => vs 9 = .int .u8 X
            | 10 => ∃ g, vs 10 = .slice (some ⟨g, 0, none⟩) 1 1 ∧ Blk w' g 5 (ints .u8 [X])
            | 11 => Own w' w.heap.size 5 .u8 (vs 11) (xor1To key c nonce xs (i + 1))
            | 12 => Own w' w.heap.size 5 .u8 (vs 12) (xor1To key c nonce xs (i + 1))
            | _ => True)
          (ks := [])
          (hm := by kernel_rfl) (hc := by kernel_rfl) ?_ ?_ ?_ ?_ ?_ ?_
        · exact hX.drew
        · intro iO jO vs w1 w2 hij hw hkl hR h
          have hB : iO ≠ 11 → Below w1.heap.size w1 w2 := fun h11 => by rw [if_neg h11] at hR; exact hR
          match jO with
          | 0 | 1 | 2 | 3 | 4 | 5 | 6 | 7 | 8 | 9 => exact h
          | 10 => obtain ⟨g, h1, h2⟩ := h; exact ⟨g, h1, h2.belowAll (hB (by rintro rfl; exact hkl rfl))⟩
          | 11 => exact Own.below h (hB (by rintro rfl; exact hij rfl))
          | 12 => exact Own.below h (hB (by rintro rfl; exact absurd (Eq.trans (by kernel_rfl : true = _) hw) (by decide)))
          | nO + 13 => trivial
        · intro jO
          match jO with
          | 11 => exact ho.drew
          | 0 | 1 | 2 | 3 | 4 | 5 | 6 | 7 | 8 | 9 | 10 | 12 | nO + 13 => trivial
        · intro iO jO w1 w2 hij hw hR h
          have hB : iO ≠ 11 → Below w1.heap.size w1 w2 := fun h11 => by rw [if_neg h11] at hR; exact hR
          match jO with
          | 11 => exact Own.below h (hB (fun he => hij he))
          | 0 | 1 | 2 | 3 | 4 | 5 | 6 | 7 | 8 | 9 | 10 | 12 | nO + 13 => trivial
        · refine ⟨?_, ?_, ?_, ?_, ?_, ?_, ?_, ?_, ?_, ?_, ?_, ?_, ?_, trivial⟩
          · (intro vs w2 hS hU hd; simp [Region.binds, Fact.at] at hd; simp only [fill, List.take_succ_cons, List.take_zero, Act.put, List.setIfInBounds_toArray, List.set_cons_zero, List.set_cons_succ, Nat.reduceAdd])
            try simp only [hd]
            go_wp2_with fail
            exact ⟨rfl, rfl, hS, Below.refl _ _⟩
          · (intro vs w2 hS hU hd; simp [Region.binds, Fact.at] at hd; simp only [fill, List.take_succ_cons, List.take_zero, Act.put, List.setIfInBounds_toArray, List.set_cons_zero, List.set_cons_succ, Nat.reduceAdd])
            try simp only [hd]
            go_wp2_with fail
            exact ⟨rfl, rfl, hS, Below.refl _ _⟩
          · (intro vs w2 hS hU hd; simp [Region.binds, Fact.at] at hd; simp only [fill, List.take_succ_cons, List.take_zero, Act.put, List.setIfInBounds_toArray, List.set_cons_zero, List.set_cons_succ, Nat.reduceAdd])
            try simp only [hd]
            go_wp2_with fail
            exact ⟨rfl, rfl, hS, Below.refl _ _⟩
          · (intro vs w2 hS hU hd; simp [Region.binds, Fact.at] at hd; simp only [fill, List.take_succ_cons, List.take_zero, Act.put, List.setIfInBounds_toArray, List.set_cons_zero, List.set_cons_succ, Nat.reduceAdd])
            simp only [hd]
            go_wp2_with fail
            exact ⟨rfl, rfl, hS, Below.refl _ _⟩
          · (intro vs w2 hS hU hd; simp [Region.binds, Fact.at] at hd; simp only [fill, List.take_succ_cons, List.take_zero, Act.put, List.setIfInBounds_toArray, List.set_cons_zero, List.set_cons_succ, Nat.reduceAdd])
            have cx := (HR.out.below hS.bel).cellAt i (by rw [← HM.out]; omega)
            simp only [hd]
            go_wp2_with fail
            exact ⟨rfl, rfl, hS, Below.refl _ _⟩
          · (intro vs w2 hS hU hd; simp [Region.binds, Fact.at] at hd; simp only [fill, List.take_succ_cons, List.take_zero, Act.put, List.setIfInBounds_toArray, List.set_cons_zero, List.set_cons_succ, Nat.reduceAdd])
            try simp only [hd]
            go_wp2_with fail
            exact ⟨rfl, rfl, hS, Below.refl _ _⟩
          · (intro vs w2 hS hU hd; simp [Region.binds, Fact.at] at hd; simp only [fill, List.take_succ_cons, List.take_zero, Act.put, List.setIfInBounds_toArray, List.set_cons_zero, List.set_cons_succ, Nat.reduceAdd])
            simp only [hd]
            go_wp2_with fail
            exact ⟨rfl, rfl, hS, Below.refl _ _⟩
          · (intro vs w2 hS hU hd; simp [Region.binds, Fact.at] at hd; simp only [fill, List.take_succ_cons, List.take_zero, Act.put, List.setIfInBounds_toArray, List.set_cons_zero, List.set_cons_succ, Nat.reduceAdd])
            simp only [hd]
            go_wp2_with fail
            exact ⟨rfl, rfl, hS, Below.refl _ _⟩
          · (intro vs w2 hS hU hd; simp [Region.binds, Fact.at] at hd; simp only [fill, List.take_succ_cons, List.take_zero, Act.put, List.setIfInBounds_toArray, List.set_cons_zero, List.set_cons_succ, Nat.reduceAdd])
            have cs := hS.s.cellI r (by rw [hbl.out]; omega)
            simp only [hd]
            go_wp2_with fail
            exact ⟨rfl, rfl, hS, Below.refl _ _⟩
          · (intro vs w2 hS hU hd; simp [Region.binds, Fact.at] at hd; simp only [fill, List.take_succ_cons, List.take_zero, Act.put, List.setIfInBounds_toArray, List.set_cons_zero, List.set_cons_succ, Nat.reduceAdd])
            simp only [hd]
            go_wp2_with fail
            rw [← hXb.out, hbx.out]
            exact ⟨rfl, rfl, hS, Below.refl _ _⟩
          · (intro vs w2 hS hU hd; simp [Region.binds, Fact.at] at hd; simp only [fill, List.take_succ_cons, List.take_zero, Act.put, List.setIfInBounds_toArray, List.set_cons_zero, List.set_cons_succ, Nat.reduceAdd])
            simp only [hd]
            go_wp2_with (first
              | (refine literal_one rfl 25 5 _ rfl (.int .u8 X) rfl rfl undBytes sizeU8X zeroU8X ?_; intro g w3 hg9 hb9 hB9 hs9)
              | fail)
            exact ⟨rfl, ⟨g, rfl, hb9⟩, hS.below hB9, hB9⟩
          · (intro vs w2 hS hU hd; simp [Region.binds, Fact.at] at hd; simp only [fill, List.take_succ_cons, List.take_zero, Act.put, List.setIfInBounds_toArray, List.set_cons_zero, List.set_cons_succ, Nat.reduceAdd])
            obtain ⟨h0, ⟨gl, h1, h2⟩⟩ := hd
            have hU' : Own w2 w.heap.size 5 .u8 u9 XT := hU
            simp only [h0, h1]
            go_wp2_with (first
              | (at_builtin; refine append_list rfl (.tmp 29) (.tmp 39) 25 rfl w.heap.size 5 .u8 1 undBytes infoU8 u9 XT rfl hU' (some ⟨gl, 0, none⟩) 1 1 [X] rfl rfl (by simp) (Rd.ofBlk h2) (by have := hlo.out; simp; omega) (by have := hlo.out; simp; omega) hS.bel.size ?_; intro v9 w3 ho9 hg9; rw [← hXb.out, ← hXT.out, ← xor1To_succ] at ho9)
              | fail)
            exact ⟨rfl, ho9, hS.grown hU' hg9, hg9⟩
          · (intro vs w2 hS hU hd; simp [Region.binds, Fact.at] at hd; simp only [fill, List.take_succ_cons, List.take_zero, Act.put, List.setIfInBounds_toArray, List.set_cons_zero, List.set_cons_succ, Nat.reduceAdd])
            go_wp2_with fail
            exact ⟨rfl, hd.1, hS, Below.refl _ _⟩
        · intro vs wq hf hS
          have h15 : Own wq w.heap.size 5 .u8 (vs 12) (xor1To key c nonce xs (i + 1)) := hf 12 (by simp) rfl
          simp only [fill, Act.put, List.setIfInBounds_toArray, List.set_cons_zero, List.set_cons_succ, Nat.reduceAdd]
          clear hf
          go_wp2_with fail
          go_roundg (gk - 1)
          case measure => have := hgq.out; omega
          case rel =>
            refine ⟨i + 1, by omega, by go_num, hid (by have := hgq.out; omega), h15, nb, hbl, hid ?_, hS⟩
            have := hqr.out
            by_cases h63 : r = 63
            · exact .inl (by omega)
            · exact .inr (by rw [show (i + 1) / 64 = q by omega]; exact hnb.out)
      · have a5 : ¬ ((r : Int) = 0) := by omega
        replace hbe : Hd (bl = block key (ctr c q) nonce) := hid (by
          have := hqr.out
          rcases hbe.out with h | h
          · omega
          · rw [h, show i / 64 = q by omega])
        have hbx : Hd (xorByte key c nonce xs i = bits .xor .u8 (rd xs i) (rd bl r)) := hid (by
          have e1 : i / 64 = q := by have := hqr.out; omega
          have e2 : i % 64 = r := by have := hqr.out; omega
          rw [xorByte, e1, e2, hbe.out])
        go_wp2_with fail
        obtain ⟨g, o, rfl⟩ := HR.out.at (by rw [← HM.out]; omega)
        obtain ⟨X, hXb⟩ : ∃ X, Hd (xorByte key c nonce xs i = X) := ⟨_, hid rfl⟩
        obtain ⟨XT, hXT⟩ : ∃ XT, Hd (xor1To key c nonce xs i = XT) := ⟨_, hid rfl⟩
        rw [hXT.out] at ho hlo
        clear a2
        have a2 : (i : Int).tmod 64 = (r : Int) := by
          have := hqr.out
          rw [Int.tmod_eq_emod_of_nonneg (by omega)]
          omega
        refine wp_region_factsU (ix := [[0], [1], [2], [3], [4], [5], [6], [7], [8], [9], [10], [11], [12]]) (S := fun w' => XB w w' g4 g6 g10 key nonce bl)
          (R := fun iO w1 w2 => if iO = 11 then w1.grownBy w2 u9.ownBlock else (Below w1.heap.size w1 w2))
          (U := fun iO w1 => match iO with
            | 11 => Own w1 w.heap.size 5 .u8 u9 XT
            | _ => True)
          (kill := fun jO => match jO with
            | 10 => some 11
            | _ => none)
          (p := fun jO vs w' => match jO with
            | 0 => vs 0 = u9
            | 1 => vs 1 = .slice (some ⟨g, o, none⟩) m cap
            | 2 => vs 2 = .int .i64 i
            | 3 => vs 3 = .pointer (some ⟨g, o + i, none⟩)
            | 4 => vs 4 = .int .u8 (rd xs i)
            | 5 => vs 5 = .int .i64 i
            | 6 => vs 6 = .int .i64 r
            | 7 => vs 7 = .pointer (some ⟨g10, r, none⟩)
            | 8 => vs 8 = .int .u8 (rd bl r)
            | 9 => vs 9 = .int .u8 X
            | 10 => ∃ g, vs 10 = .slice (some ⟨g, 0, none⟩) 1 1 ∧ Blk w' g 5 (ints .u8 [X])
            | 11 => Own w' w.heap.size 5 .u8 (vs 11) (xor1To key c nonce xs (i + 1))
            | 12 => Own w' w.heap.size 5 .u8 (vs 12) (xor1To key c nonce xs (i + 1))
            | _ => True)
          (ks := [])
          (hm := by kernel_rfl) (hc := by kernel_rfl) ?_ ?_ ?_ ?_ ?_ ?_
        · exact hX.drew
        · intro iO jO vs w1 w2 hij hw hkl hR h
          have hB : iO ≠ 11 → Below w1.heap.size w1 w2 := fun h11 => by rw [if_neg h11] at hR; exact hR
          match jO with
          | 0 | 1 | 2 | 3 | 4 | 5 | 6 | 7 | 8 | 9 => exact h
          | 10 => obtain ⟨g, h1, h2⟩ := h; exact ⟨g, h1, h2.belowAll (hB (by rintro rfl; exact hkl rfl))⟩
          | 11 => exact Own.below h (hB (by rintro rfl; exact hij rfl))
          | 12 => exact Own.below h (hB (by rintro rfl; exact absurd (Eq.trans (by kernel_rfl : true = _) hw) (by decide)))
          | nO + 13 => trivial
        · intro jO
          match jO with
          | 11 => exact ho.drew
          | 0 | 1 | 2 | 3 | 4 | 5 | 6 | 7 | 8 | 9 | 10 | 12 | nO + 13 => trivial
        · intro iO jO w1 w2 hij hw hR h
          have hB : iO ≠ 11 → Below w1.heap.size w1 w2 := fun h11 => by rw [if_neg h11] at hR; exact hR
          match jO with
          | 11 => exact Own.below h (hB (fun he => hij he))
          | 0 | 1 | 2 | 3 | 4 | 5 | 6 | 7 | 8 | 9 | 10 | 12 | nO + 13 => trivial
        · refine ⟨?_, ?_, ?_, ?_, ?_, ?_, ?_, ?_, ?_, ?_, ?_, ?_, ?_, trivial⟩
          · (intro vs w2 hS hU hd; simp [Region.binds, Fact.at] at hd; simp only [fill, List.take_succ_cons, List.take_zero, Act.put, List.setIfInBounds_toArray, List.set_cons_zero, List.set_cons_succ, Nat.reduceAdd])
            try simp only [hd]
            go_wp2_with fail
            exact ⟨rfl, rfl, hS, Below.refl _ _⟩
          · (intro vs w2 hS hU hd; simp [Region.binds, Fact.at] at hd; simp only [fill, List.take_succ_cons, List.take_zero, Act.put, List.setIfInBounds_toArray, List.set_cons_zero, List.set_cons_succ, Nat.reduceAdd])
            try simp only [hd]
            go_wp2_with fail
            exact ⟨rfl, rfl, hS, Below.refl _ _⟩
          · (intro vs w2 hS hU hd; simp [Region.binds, Fact.at] at hd; simp only [fill, List.take_succ_cons, List.take_zero, Act.put, List.setIfInBounds_toArray, List.set_cons_zero, List.set_cons_succ, Nat.reduceAdd])
            try simp only [hd]
            go_wp2_with fail
            exact ⟨rfl, rfl, hS, Below.refl _ _⟩
          · (intro vs w2 hS hU hd; simp [Region.binds, Fact.at] at hd; simp only [fill, List.take_succ_cons, List.take_zero, Act.put, List.setIfInBounds_toArray, List.set_cons_zero, List.set_cons_succ, Nat.reduceAdd])
            simp only [hd]
            go_wp2_with fail
            exact ⟨rfl, rfl, hS, Below.refl _ _⟩
          · (intro vs w2 hS hU hd; simp [Region.binds, Fact.at] at hd; simp only [fill, List.take_succ_cons, List.take_zero, Act.put, List.setIfInBounds_toArray, List.set_cons_zero, List.set_cons_succ, Nat.reduceAdd])
            have cx := (HR.out.below hS.bel).cellAt i (by rw [← HM.out]; omega)
            simp only [hd]
            go_wp2_with fail
            exact ⟨rfl, rfl, hS, Below.refl _ _⟩
          · (intro vs w2 hS hU hd; simp [Region.binds, Fact.at] at hd; simp only [fill, List.take_succ_cons, List.take_zero, Act.put, List.setIfInBounds_toArray, List.set_cons_zero, List.set_cons_succ, Nat.reduceAdd])
            try simp only [hd]
            go_wp2_with fail
            exact ⟨rfl, rfl, hS, Below.refl _ _⟩
          · (intro vs w2 hS hU hd; simp [Region.binds, Fact.at] at hd; simp only [fill, List.take_succ_cons, List.take_zero, Act.put, List.setIfInBounds_toArray, List.set_cons_zero, List.set_cons_succ, Nat.reduceAdd])
            simp only [hd]
            go_wp2_with fail
            exact ⟨rfl, rfl, hS, Below.refl _ _⟩
          · (intro vs w2 hS hU hd; simp [Region.binds, Fact.at] at hd; simp only [fill, List.take_succ_cons, List.take_zero, Act.put, List.setIfInBounds_toArray, List.set_cons_zero, List.set_cons_succ, Nat.reduceAdd])
            simp only [hd]
            go_wp2_with fail
            exact ⟨rfl, rfl, hS, Below.refl _ _⟩
          · (intro vs w2 hS hU hd; simp [Region.binds, Fact.at] at hd; simp only [fill, List.take_succ_cons, List.take_zero, Act.put, List.setIfInBounds_toArray, List.set_cons_zero, List.set_cons_succ, Nat.reduceAdd])
            have cs := hS.s.cellI r (by rw [hbl.out]; omega)
            simp only [hd]
            go_wp2_with fail
            exact ⟨rfl, rfl, hS, Below.refl _ _⟩
          · (intro vs w2 hS hU hd; simp [Region.binds, Fact.at] at hd; simp only [fill, List.take_succ_cons, List.take_zero, Act.put, List.setIfInBounds_toArray, List.set_cons_zero, List.set_cons_succ, Nat.reduceAdd])
            simp only [hd]
            go_wp2_with fail
            rw [← hXb.out, hbx.out]
            exact ⟨rfl, rfl, hS, Below.refl _ _⟩
          · (intro vs w2 hS hU hd; simp [Region.binds, Fact.at] at hd; simp only [fill, List.take_succ_cons, List.take_zero, Act.put, List.setIfInBounds_toArray, List.set_cons_zero, List.set_cons_succ, Nat.reduceAdd])
            simp only [hd]
            go_wp2_with (first
              | (refine literal_one rfl 25 5 _ rfl (.int .u8 X) rfl rfl undBytes sizeU8X zeroU8X ?_; intro g w3 hg9 hb9 hB9 hs9)
              | fail)
            exact ⟨rfl, ⟨g, rfl, hb9⟩, hS.below hB9, hB9⟩
          · (intro vs w2 hS hU hd; simp [Region.binds, Fact.at] at hd; simp only [fill, List.take_succ_cons, List.take_zero, Act.put, List.setIfInBounds_toArray, List.set_cons_zero, List.set_cons_succ, Nat.reduceAdd])
            obtain ⟨h0, ⟨gl, h1, h2⟩⟩ := hd
            have hU' : Own w2 w.heap.size 5 .u8 u9 XT := hU
            simp only [h0, h1]
            go_wp2_with (first
              | (at_builtin; refine append_list rfl (.tmp 29) (.tmp 39) 25 rfl w.heap.size 5 .u8 1 undBytes infoU8 u9 XT rfl hU' (some ⟨gl, 0, none⟩) 1 1 [X] rfl rfl (by simp) (Rd.ofBlk h2) (by have := hlo.out; simp; omega) (by have := hlo.out; simp; omega) hS.bel.size ?_; intro v9 w3 ho9 hg9; rw [← hXb.out, ← hXT.out, ← xor1To_succ] at ho9)
              | fail)
            exact ⟨rfl, ho9, hS.grown hU' hg9, hg9⟩
          · (intro vs w2 hS hU hd; simp [Region.binds, Fact.at] at hd; simp only [fill, List.take_succ_cons, List.take_zero, Act.put, List.setIfInBounds_toArray, List.set_cons_zero, List.set_cons_succ, Nat.reduceAdd])
            go_wp2_with fail
            exact ⟨rfl, hd.1, hS, Below.refl _ _⟩
        · intro vs wq hf hS
          have h15 : Own wq w.heap.size 5 .u8 (vs 12) (xor1To key c nonce xs (i + 1)) := hf 12 (by simp) rfl
          simp only [fill, Act.put, List.setIfInBounds_toArray, List.set_cons_zero, List.set_cons_succ, Nat.reduceAdd]
          clear hf
          go_wp2_with fail
          go_roundg (gk - 1)
          case measure => have := hgq.out; omega
          case rel =>
            refine ⟨i + 1, by omega, by go_num, hid (by have := hgq.out; omega), h15, bl, hbl, hid ?_, hS⟩
            have := hqr.out
            by_cases h63 : r = 63
            · exact .inl (by omega)
            · exact .inr (by rw [show (i + 1) / 64 = q by omega]; exact hbe.out)
    · obtain rfl : i = m := by omega
      have a1 : ¬ ((i : Int) < i) := by omega
      go_wp2_with fail
      go_ret
      refine ⟨_, rfl, ?_, hX.bel⟩
      rw [← xor1To_all, ← HM.out]
      exact ho
end Go.Proofs.YtpmmmbilfblcpaaDoor
