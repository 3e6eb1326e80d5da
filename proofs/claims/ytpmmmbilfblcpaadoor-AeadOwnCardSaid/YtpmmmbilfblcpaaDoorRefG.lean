/- The reference's tag. -/
import Derived.Test.YtpmmmbilfblcpaaDoorRefT
import Derived.Test.YtpmmmbilfblcpaaDoorFactsU
import Derived.Test.YtpmmmbilfblcpaaDoorAeB
import Derived.Test.YtpmmmbilfblcpaaDoorMatG
import Derived.Test.YtpmmmbilfblcpaaDoorSame
namespace Go.Proofs.YtpmmmbilfblcpaaDoor
open Go.RowKit Go.Cour
attribute [local go_sem] max2_int min2_int
theorem bits_and_u32_nat (a b : Nat) (ha : a < 4294967296) (hb : b < 4294967296) : bits .and .u32 (a : Int) (b : Int) = ((a &&& b : Nat) : Int) := by
  have hx : a &&& b < 2 ^ 32 := Nat.and_lt_two_pow _ (by omega)
  have h1 : (BitVec.ofInt 32 (a : Int)).toNat = a := by
    rw [BitVec.ofInt_natCast, BitVec.toNat_ofNat]; exact Nat.mod_eq_of_lt (by omega)
  have h2 : (BitVec.ofInt 32 (b : Int)).toNat = b := by
    rw [BitVec.ofInt_natCast, BitVec.toNat_ofNat]; exact Nat.mod_eq_of_lt (by omega)
  show IntKind.u32.wrap ((BitVec.ofInt 32 (a : Int) &&& BitVec.ofInt 32 (b : Int)).toNat : Int) = _
  rw [BitVec.toNat_and, h1, h2, IntKind.wrap_u32]
  omega
theorem and_u32_u8 (x : Int) (m : Nat) (hx : 0 ≤ x ∧ x < 256) (hm : m < 256) : bits .and .u32 x (m : Int) = bits .and .u8 x (m : Int) := by
  obtain ⟨a, rfl⟩ : ∃ a : Nat, x = (a : Int) := ⟨x.toNat, by omega⟩
  rw [bits_and_u8_nat a m (by omega) hm, bits_and_u32_nat a m (by omega) (by omega)]
/-- A list put into seventeen zeros. -/
def putTo (f : Nat → Int) (n : Nat) : List Int := (List.range n).foldl (fun s i => s.set i (f i)) (List.replicate 17 0)
theorem putTo_succ (f : Nat → Int) (n : Nat) : putTo f (n + 1) = (putTo f n).set n (f n) := foldl_succ _ _ _
theorem putTo_length (f : Nat → Int) : ∀ n, (putTo f n).length = 17
  | 0 => by simp [putTo]
  | n + 1 => by rw [putTo_succ, List.length_set]; exact putTo_length f n
theorem rd_putTo (f : Nat → Int) (i : Nat) : ∀ n, n ≤ 17 → rd (putTo f n) i = if i < n then f i else 0
  | 0, _ => by
    rw [if_neg (by omega)]
    exact rd_rep0 _ _
  | n + 1, hn => by
    rw [putTo_succ, rd_set', putTo_length, rd_putTo f i n (by omega)]
    by_cases h1 : n = i
    · subst h1
      rw [if_pos ⟨rfl, by omega⟩, if_pos (by omega)]
    · rw [if_neg (by omega)]
      by_cases h2 : i < n
      · rw [if_pos h2, if_pos (by omega)]
      · rw [if_neg h2, if_neg (by omega)]
theorem putTo_key (key : List Int) (hk : key.length = 32) : putTo (rd key) 16 = key.take 16 ++ [0] := by
  have hl : (key.take 16).length = 16 := by rw [List.length_take]; omega
  refine ext_rd (by rw [putTo_length, List.length_append, hl]; rfl) fun i hi => ?_
  rw [putTo_length] at hi
  rw [rd_putTo _ _ _ (by omega), rd_app, hl]
  by_cases h : i < 16
  · rw [if_pos h, if_pos h, rd_take _ _ _ h]
  · rw [if_neg h, if_neg h, show i - 16 = 0 by omega]
    rfl
theorem putTo_block (ys : List Int) : (putTo (rd ys) (min ys.length 16)).set (min ys.length 16) 1 = blockOf ys := by
  refine ext_rd (by rw [List.length_set, putTo_length, blockOf_length]) fun i hi => ?_
  rw [List.length_set, putTo_length] at hi
  rw [rd_set', putTo_length, rd_putTo _ _ _ (by omega), rd_blockOf ys i hi]
  by_cases h : i = min ys.length 16
  · rw [if_pos ⟨h.symm, hi⟩, if_pos h]
  · rw [if_neg (by omega), if_neg h]
/-- What is summed behind so many blocks. -/
def hTo (r bs : List Int) : Nat → List Int
  | 0 => List.replicate 17 0
  | n + 1 => timesT (plus1 (hTo r bs n) (blockOf (bs.drop (16 * n)))) r
theorem endT_length (s : List Int × Int) : (endT s).length = s.1.length := by simp [endT]
theorem midT_length (s : List Int × Int) : (midT s).1.length = s.1.length := by simp [midT]
theorem timesT_length (h r : List Int) : (timesT h r).length = 17 := by rw [timesT, endT_length, carT_length, midT_length, carT_length, xTo_length]
theorem plus1_length (h c : List Int) : (plus1 h c).length = h.length := plusS_length h c 17
theorem hTo_length (r bs : List Int) : ∀ n, (hTo r bs n).length = 17
  | 0 => by simp [hTo]
  | n + 1 => timesT_length _ _
def minusP : List Int := [5, 0, 0, 0, 0, 0, 0, 0, 0, 0, 0, 0, 0, 0, 0, 0, 252]
def minusA : List Int := [5, 0, 0, 0, 0, 0, 0, 0, 0, 0, 0, 0, 0, 0, 0, 0, 0]
theorem minusA_set : minusA.set 16 252 = minusP := rfl
def finT (h : List Int) : List Int := if rd (plus1 h minusP) 16 / 128 = 0 then plus1 h minusP else h
def outT (h : List Int) (n : Nat) : List Int := (List.range n).foldl (fun s i => s.set i (rd h i % 256)) (List.replicate 16 0)
theorem outT_succ (h : List Int) (n : Nat) : outT h (n + 1) = (outT h n).set n (rd h n % 256) := foldl_succ _ _ _
theorem outT_length (h : List Int) : ∀ n, (outT h n).length = 16
  | 0 => by simp [outT]
  | n + 1 => by rw [outT_succ, List.length_set]; exact outT_length h n
def tagT (key bs : List Int) : List Int := outT (plus1 (finT (hTo (rbytes key) bs ((bs.length + 15) / 16))) (putTo (fun j => rd key (16 + j)) 16)) 16
theorem buildZeroT : Tryd.prog.built 88 [] = some (ints .u32 (List.replicate 17 0)).toArray := by kernel_rfl
theorem buildMinT : Tryd.prog.built 88 [(0, .int .u32 5)] = some (ints .u32 minusA).toArray := by kernel_rfl
/-- What the blocks of a call hold. -/
structure GB (w wr : World) (g2 g4 g5 g6 g7 : Nat) (key r h c : List Int) : Prop where
  hl : h.length = 17
  k : Blk wr g2 23 (ints .u8 key)
  o : Blk wr g4 46 (ints .u8 (List.replicate 16 0))
  r : Blk wr g5 88 (ints .u32 r)
  h : Blk wr g6 88 (ints .u32 h)
  c : Blk wr g7 88 (ints .u32 c)
  bel : Below w.heap.size w wr
structure GZ (w : World) (g2 g4 g5 g6 g7 : Nat) : Prop where
  a : w.heap.size ≤ g2
  b : g2 < g4
  c : g4 < g5
  d : g5 < g6
  e : g6 < g7
theorem GB.setR {w wr : World} {g2 g4 g5 g6 g7 : Nat} {key r h c : List Int} (H : GB w wr g2 g4 g5 g6 g7 key r h c) (z : Hd (GZ w g2 g4 g5 g6 g7)) (i : Nat) (x : Int) : GB w (wr.setCell ⟨g5, i, none⟩ (.int .u32 x)) g2 g4 g5 g6 g7 key (r.set i x) h c := by
  obtain ⟨a, b, c', d, e⟩ := z.out
  exact ⟨H.hl, H.k.setOther (by simp; omega) _, H.o.setOther (by simp; omega) _, H.r.setI i x, H.h.setOther (by simp; omega) _, H.c.setOther (by simp; omega) _, H.bel.setCell (by simp; omega) _⟩
theorem GB.setC {w wr : World} {g2 g4 g5 g6 g7 : Nat} {key r h c : List Int} (H : GB w wr g2 g4 g5 g6 g7 key r h c) (z : Hd (GZ w g2 g4 g5 g6 g7)) (i : Nat) (x : Int) : GB w (wr.setCell ⟨g7, i, none⟩ (.int .u32 x)) g2 g4 g5 g6 g7 key r h (c.set i x) := by
  obtain ⟨a, b, c', d, e⟩ := z.out
  exact ⟨H.hl, H.k.setOther (by simp; omega) _, H.o.setOther (by simp; omega) _, H.r.setOther (by simp; omega) _, H.h.setOther (by simp; omega) _, H.c.setI i x, H.bel.setCell (by simp; omega) _⟩
theorem GB.rowC {w wr : World} {g2 g4 g5 g6 g7 : Nat} {key r h c : List Int} (H : GB w wr g2 g4 g5 g6 g7 key r h c) (z : Hd (GZ w g2 g4 g5 g6 g7)) (c2 : List Int) : GB w (wr.setRow g7 (ints .u32 c2).toArray) g2 g4 g5 g6 g7 key r h c2 := by
  obtain ⟨a, b, c', d, e⟩ := z.out
  exact ⟨H.hl, H.k.setRowOther (by omega) _, H.o.setRowOther (by omega) _, H.r.setRowOther (by omega) _, H.h.setRowOther (by omega) _, H.c.setRow _, below_setRow H.bel (by omega) _⟩
theorem GB.rowH {w wr : World} {g2 g4 g5 g6 g7 : Nat} {key r h c : List Int} (H : GB w wr g2 g4 g5 g6 g7 key r h c) (z : Hd (GZ w g2 g4 g5 g6 g7)) (h2 : List Int) (hl2 : h2.length = 17) : GB w (wr.setRow g6 (ints .u32 h2).toArray) g2 g4 g5 g6 g7 key r h2 c := by
  obtain ⟨a, b, c', d, e⟩ := z.out
  exact ⟨hl2, H.k.setRowOther (by omega) _, H.o.setRowOther (by omega) _, H.r.setRowOther (by omega) _, H.h.setRow _, H.c.setRowOther (by omega) _, below_setRow H.bel (by omega) _⟩
theorem GB.other {w wr : World} {g2 g4 g5 g6 g7 g : Nat} {key r h c : List Int} (H : GB w wr g2 g4 g5 g6 g7 key r h c) (z : Hd (GZ w g2 g4 g5 g6 g7)) (hg : g7 < g) (cs : Array Value) : GB w (wr.setRow g cs) g2 g4 g5 g6 g7 key r h c := by
  obtain ⟨a, b, c', d, e⟩ := z.out
  exact ⟨H.hl, H.k.setRowOther (by omega) _, H.o.setRowOther (by omega) _, H.r.setRowOther (by omega) _, H.h.setRowOther (by omega) _, H.c.setRowOther (by omega) _, below_setRow H.bel (by omega) _⟩
theorem GB.otherC {w wr : World} {g2 g4 g5 g6 g7 g : Nat} {key r h c : List Int} (H : GB w wr g2 g4 g5 g6 g7 key r h c) (z : Hd (GZ w g2 g4 g5 g6 g7)) (hg : g7 < g) (i : Nat) (v : Value) : GB w (wr.setCell ⟨g, i, none⟩ v) g2 g4 g5 g6 g7 key r h c := by
  obtain ⟨a, b, c', d, e⟩ := z.out
  exact ⟨H.hl, H.k.setOther (by simp; omega) _, H.o.setOther (by simp; omega) _, H.r.setOther (by simp; omega) _, H.h.setOther (by simp; omega) _, H.c.setOther (by simp; omega) _, H.bel.setCell (by simp; omega) _⟩
theorem GB.below {w wr wx : World} {g2 g4 g5 g6 g7 : Nat} {key r h c : List Int} (H : GB w wr g2 g4 g5 g6 g7 key r h c) (hb : Below wr.heap.size wr wx) : GB w wx g2 g4 g5 g6 g7 key r h c :=
  ⟨H.hl, H.k.belowAll hb, H.o.belowAll hb, H.r.belowAll hb, H.h.belowAll hb, H.c.belowAll hb, below_then H.bel H.bel.size hb⟩
theorem GB.drew {w wr : World} {g2 g4 g5 g6 g7 : Nat} {key r h c : List Int} (H : GB w wr g2 g4 g5 g6 g7 key r h c) : GB w wr.drew g2 g4 g5 g6 g7 key r h c :=
  ⟨H.hl, H.k.drew, H.o.drew, H.r.drew, H.h.drew, H.c.drew, below_drewN H.bel 1⟩
set_option maxHeartbeats 16000000 in
set_option maxRecDepth 100000 in
theorem tag1_calls (key bs : List Int) (A : Option Addr) (m cap : Nat) (w : World) (hk : key.length = 32) (rk : bytesOk key) (hm : m = bs.length) (hr : Rd w A .u8 bs) (rb : bytesOk bs) (hl : bs.length ≤ 1000000) :
    Calls Tryd.prog 54 #[.agg (ints .u8 key).toArray, .slice A m cap] w fun e w' => e = .returned (.agg (ints .u8 (tagT key bs)).toArray) ∧ Below w.heap.size w w' := by
  have HK := hid hk
  have HR := hid hr
  have HM := hid hm
  have HTAG : Hd (outT (plus1 (finT (hTo (clampB (clampA (putTo (rd key) 16) 4) 3) bs ((m + 15) / 16))) (putTo (fun j => rd key (16 + j)) 16)) 16 = tagT key bs) := hid (by rw [putTo_key key hk, hm]; rfl)
  have HCA : Hd (bytesOk (putTo (rd key) 16)) := hid (by
    intro i
    rw [rd_putTo _ _ _ (by omega)]
    split
    · exact rk i
    · omega)
  have hmb : m ≤ 1000000 := by omega
  clear hk hr hm hl
  go_enter Tryd.func54, Tryd.ntmps54
  go_wp2_with (first
    | (refine box_blk rfl 23 _ rfl _ rfl (ints .u8 key) rfl ?_; intro g2 w1 hg2 hb2 hB1 hs1)
    | (refine alloc_blk rfl 46 rfl _ rfl (ints .u8 (List.replicate 16 0)) zeroT16 ?_; intro g4 w2 hg4 hb4 hB2 hs2)
    | (have hx := hb6; refine alloc_blk rfl 88 rfl _ rfl (ints .u32 (List.replicate 17 0)) zeroA17w ?_; clear hx; intro g7 w5 hg7 hb7 hB5 hs5)
    | (have hx := hb5; refine alloc_blk rfl 88 rfl _ rfl (ints .u32 (List.replicate 17 0)) zeroA17w ?_; clear hx; intro g6 w4 hg6 hb6 hB4 hs4)
    | (refine alloc_blk rfl 88 rfl _ rfl (ints .u32 (List.replicate 17 0)) zeroA17w ?_; intro g5 w3 hg5 hb5 hB3 hs3)
    | fail)
  have hz : Hd (GZ w g2 g4 g5 g6 g7) := hid ⟨by omega, by omega, by omega, by omega, by omega⟩
  have hX : GB w w5 g2 g4 g5 g6 g7 key (putTo (rd key) 0) (List.replicate 17 0) (List.replicate 17 0) :=
    ⟨by simp, (((hb2.belowAll hB2).belowAll hB3).belowAll hB4).belowAll hB5, ((hb4.belowAll hB3).belowAll hB4).belowAll hB5, (hb5.belowAll hB4).belowAll hB5, hb6.belowAll hB5, hb7,
      below_then (below_then (below_then (below_then hB1 hB1.size hB2) (by omega) hB3) (by omega) hB4) (by omega) hB5⟩
  clear hg2 hb2 hB1 hs1 hg4 hb4 hB2 hs2 hg5 hb5 hB3 hs3 hg6 hb6 hB4 hs4 hg7 hb7 hB5 hs5
  go_loopg [8] 17 (fun kq v8 wr => ∃ i : Nat, i ≤ 16 ∧ v8 = .int .i64 i ∧ Hd (kq + i = 17) ∧ GB w wr g2 g4 g5 g6 g7 key (putTo (rd key) i) (List.replicate 17 0) (List.replicate 17 0))
  case atStart => exact ⟨0, by omega, rfl, hid (by omega), hX⟩
  case round =>
    clear hX
    obtain ⟨i, hi, rfl, hq, hX⟩ := hrel
    by_cases hlt : i < 16
    · have cr := hX.r.cellI i (by rw [putTo_length]; omega)
      have fr := hX.r.frozen i
      have ck := hX.k.cellI i (by have := HK.out; omega)
      have a1 : (i : Int) < 17 := by omega
      have a2 : (i : Int) < 32 := by omega
      have kb := rk i
      have hE : Hd (putTo (rd key) (i + 1) = (putTo (rd key) i).set i (rd key i)) := hid (putTo_succ _ _)
      generalize rd key i = K at ck kb hE
      go_wp2_with fail
      go_roundg (gk - 1)
      case measure => have := hq.out; omega
      case rel => exact ⟨i + 1, by omega, by go_num, hid (by have := hq.out; omega), by rw [hE.out]; exact hX.setR hz i K⟩
    · obtain rfl : i = 16 := by omega
      clear hq hi hlt
      have hRl : Hd ((putTo (rd key) 16).length = 17) := hid (putTo_length _ _)
      generalize putTo (rd key) 16 = R0 at hX HTAG HCA hRl
      go_wp2_with fail
      obtain ⟨wo, rfl⟩ : ∃ wo : World, wo = wr := ⟨_, rfl⟩
      go_loopg [9] 5 (fun kq v9 wr => ∃ i : Nat, i ≤ 4 ∧ v9 = .int .i64 (4 * (i : Int) + 3) ∧ Hd (kq + i = 5) ∧ GB w wr g2 g4 g5 g6 g7 key (clampA R0 i) (List.replicate 17 0) (List.replicate 17 0))
      case atStart => exact ⟨0, by omega, by go_num, hid (by omega), hX⟩
      case round =>
        clear hX
        obtain ⟨i, hi, rfl, hq, hX⟩ := hrel
        have hcl : Hd ((clampA R0 i).length = 17) := hid (by rw [clampA_length]; exact hRl.out)
        by_cases hlt : i < 4
        · obtain ⟨p, hp, hp17⟩ : ∃ p : Nat, Hd (p = 4 * i + 3) ∧ p < 17 := ⟨_, hid rfl, by omega⟩
          have e1 : 4 * (i : Int) + 3 = (p : Int) := by have := hp.out; omega
          have a0 : 4 * (i : Int) + 3 < 16 := by omega
          rw [e1] at a0 ⊢
          have cr := hX.r.cellI p (by have := hcl.out; omega)
          have fr := hX.r.frozen p
          have kb := clampA_in R0 HCA.out i p
          have hE : Hd (clampA R0 (i + 1) = (clampA R0 i).set p (bits .and .u8 (rd (clampA R0 i) p) 15)) := hid (by rw [clampA_succ, hp.out])
          have a1 : (p : Int) < 17 := by omega
          have hand := hid (and_u32_u8 (rd (clampA R0 i) p) 15 kb (by decide))
          generalize rd (clampA R0 i) p = K at cr kb hE hand
          go_wp2_with fail
          go_roundg (gk - 1)
          case measure => have := hq.out; omega
          case rel =>
            refine ⟨i + 1, by omega, by have := hp.out; go_num, hid (by have := hq.out; omega), ?_⟩
            have h2 := hX.setR hz p (bits .and .u32 K 15)
            rw [show (bits .and .u32 K 15) = bits .and .u8 K 15 from hand.out, ← hE.out] at h2
            rw [show (bits .and .u32 K 15) = bits .and .u8 K 15 from hand.out]
            exact h2
        · obtain rfl : i = 4 := by omega
          clear hq hi hlt
          have HCB : Hd (bytesOk (clampA R0 4)) := hid (clampA_in R0 HCA.out 4)
          generalize clampA R0 4 = R1 at hX HTAG HCB hcl
          have a0 : ¬ (4 * ((4 : Nat) : Int) + 3 < 16) := by omega
          go_wp2_with fail
          obtain ⟨wo1, rfl⟩ : ∃ wo : World, wo = wr := ⟨_, rfl⟩
          go_loopg [10] 4 (fun kq v10 wr => ∃ i : Nat, i ≤ 3 ∧ v10 = .int .i64 (4 * (i : Int) + 4) ∧ Hd (kq + i = 4) ∧ GB w wr g2 g4 g5 g6 g7 key (clampB R1 i) (List.replicate 17 0) (List.replicate 17 0))
          case atStart => exact ⟨0, by omega, by go_num, hid (by omega), hX⟩
          case round =>
            clear hX
            obtain ⟨i, hi, rfl, hq, hX⟩ := hrel
            have hcm : Hd ((clampB R1 i).length = 17) := hid (by rw [clampB_length]; exact hcl.out)
            by_cases hlt : i < 3
            · obtain ⟨p, hp, hp17⟩ : ∃ p : Nat, Hd (p = 4 * i + 4) ∧ p < 17 := ⟨_, hid rfl, by omega⟩
              have e1 : 4 * (i : Int) + 4 = (p : Int) := by have := hp.out; omega
              have a0 : 4 * (i : Int) + 4 < 16 := by omega
              rw [e1] at a0 ⊢
              have cr := hX.r.cellI p (by have := hcm.out; omega)
              have fr := hX.r.frozen p
              have kb := clampB_in R1 HCB.out i p
              have hE : Hd (clampB R1 (i + 1) = (clampB R1 i).set p (bits .and .u8 (rd (clampB R1 i) p) 252)) := hid (by rw [clampB_succ, hp.out])
              have a1 : (p : Int) < 17 := by omega
              have hand := hid (and_u32_u8 (rd (clampB R1 i) p) 252 kb (by decide))
              generalize rd (clampB R1 i) p = K at cr kb hE hand
              go_wp2_with fail
              go_roundg (gk - 1)
              case measure => have := hq.out; omega
              case rel =>
                refine ⟨i + 1, by omega, by have := hp.out; go_num, hid (by have := hq.out; omega), ?_⟩
                have h2 := hX.setR hz p (bits .and .u32 K 252)
                rw [show (bits .and .u32 K 252) = bits .and .u8 K 252 from hand.out, ← hE.out] at h2
                rw [show (bits .and .u32 K 252) = bits .and .u8 K 252 from hand.out]
                exact h2
            · obtain rfl : i = 3 := by omega
              clear hq hi hlt
              generalize clampB R1 3 = r at hX HTAG hcm
              have a0 : ¬ (4 * ((3 : Nat) : Int) + 4 < 16) := by omega
              go_wp2_with fail
              obtain ⟨wo2, rfl⟩ : ∃ wo : World, wo = wr := ⟨_, rfl⟩
              go_loopg [11, 12, 13] (m + 1) (fun kq v11 v12 v13 wr => ∃ n : Nat, n ≤ (m + 15) / 16 ∧ v11 = .int .i64 (16 * (n : Int)) ∧ Hd (kq + n = m + 1) ∧ ∃ c : List Int, Hd (c.length = 17) ∧ GB w wr g2 g4 g5 g6 g7 key r (hTo r bs n) c)
              case atStart => exact ⟨0, by omega, by go_num, hid (by omega), _, hid (by simp), hX⟩
              case round =>
                clear hX
                obtain ⟨n, hn, rfl, hq, c, hcl2, hX⟩ := hrel
                by_cases hlt : 16 * n < m
                · have a0 : 16 * (n : Int) < m := by omega
                  obtain ⟨k, hk⟩ : ∃ k : Nat, Hd (k = min (m - 16 * n) 16) := ⟨_, hid rfl⟩
                  have hkb : Hd (1 ≤ k ∧ k ≤ 16 ∧ 16 * n + k ≤ m) := hid (by have := hk.out; omega)
                  have hmin : (if (m : Int) - 16 * (n : Int) < 16 then (m : Int) - 16 * (n : Int) else 16) = (k : Int) := by have := hk.out; split <;> omega
                  have a1 : IntKind.i64.wrap ((m : Int) - 16 * (n : Int)) = (m : Int) - 16 * (n : Int) := IntWalk.i64_in _ (by omega)
                  obtain ⟨ys, hys⟩ : ∃ ys, Hd (ys = bs.drop (16 * n)) := ⟨_, hid rfl⟩
                  have hyl : Hd (k = min ys.length 16) := hid (by rw [hk.out, hys.out, List.length_drop, HM.out])
                  have hBO : Hd ((putTo (rd ys) k).set k 1 = blockOf ys) := hid (by rw [hyl.out]; exact putTo_block ys)
                  have hHN : Hd (timesT (plus1 (hTo r bs n) (blockOf ys)) r = hTo r bs (n + 1)) := hid (by rw [hys.out]; rfl)
                  have hhl := hid hX.hl
                  generalize hTo r bs n = h at hX hHN hhl
                  go_wp2_with (first
                    | (refine build_to rfl 88 _ rfl (ints .u32 (List.replicate 17 0)).toArray (by kernel_rfl) ?_)
                    | (refine store_blk rfl 88 _ _ rfl g7 (ints .u32 (List.replicate 17 0)) rfl rfl 88 _ hX.c 17 info88 (by simp) (by simpa using hcl2.out) (ints_one _ _) ?_)
                    | fail)
                  replace hX := hX.rowC hz (putTo (rd ys) 0)
                  obtain ⟨wo3, rfl⟩ : ∃ wo : World, wo = wr := ⟨_, rfl⟩
                  change GB w (wo3.setRow g7 (ints .u32 (List.replicate 17 0)).toArray) g2 g4 g5 g6 g7 key r h (putTo (rd ys) 0) at hX
                  change Code.wp _ _ _ _ (wo3.setRow g7 (ints .u32 (List.replicate 17 0)).toArray)
                  generalize wo3.setRow g7 (ints .u32 (List.replicate 17 0)).toArray = wn at hX ⊢
                  clear hmin a1
                  have hd0 : decide (16 * (n : Int) < m) = true := by simp; omega
                  obtain ⟨gk1, hgk⟩ : ∃ g : Nat, Hd (g = gk) := ⟨gk, hid rfl⟩
                  have hq1 : Hd (gk1 + n = m + 1) := hid (by rw [hgk.out]; exact hq.out)
                  go_loopg [13] (k + 1) (fun kq v13 wr => ∃ j : Nat, j ≤ k ∧ v13 = .int .i64 j ∧ Hd (kq + j = k + 1) ∧ GB w wr g2 g4 g5 g6 g7 key r h (putTo (rd ys) j))
                  case atStart => exact ⟨0, by omega, rfl, hid (by omega), hX⟩
                  case round =>
                    clear hX
                    obtain ⟨j, hj, rfl, hqj, hX⟩ := hrel
                    have hcl3 : Hd ((putTo (rd ys) j).length = 17) := hid (putTo_length _ _)
                    by_cases hjlt : j < k
                    · obtain ⟨g, o, rfl⟩ := HR.out.at (by have := hkb.out; rw [← HM.out]; omega)
                      have a1 : (j : Int) < k := by omega
                      have a2 : (j : Int) < 17 := by have := hkb.out; omega
                      obtain ⟨q, hqq⟩ : ∃ q : Nat, Hd (q = 16 * n + j) := ⟨_, hid rfl⟩
                      have a3 : 16 * (n : Int) + j = (q : Int) := by have := hqq.out; omega
                      have a4 : (q : Int) < m := by have := hqq.out; have := hkb.out; omega
                      have a5 : IntKind.i64.wrap (q : Int) = (q : Int) := IntWalk.i64_in _ (by omega)
                      have cb := (HR.out.below hX.bel).cellAt q (by rw [← HM.out]; omega)
                      have cr := hX.c.cellI j (by have := hcl3.out; omega)
                      have fr := hX.c.frozen j
                      have kb := rb q
                      have hE : Hd (putTo (rd ys) (j + 1) = (putTo (rd ys) j).set j (rd bs q)) := hid (by rw [putTo_succ, hys.out, rd_drop, hqq.out])
                      generalize rd bs q = K at cb kb hE
                      go_wp2_with fail
                      go_roundg (gk - 1)
                      case measure => have := hqj.out; omega
                      case rel => exact ⟨j + 1, by omega, by go_num, hid (by have := hqj.out; omega), by rw [hE.out]; exact hX.setC hz j K⟩
                    · obtain rfl : j = k := by omega
                      clear hqj hj hjlt
                      have a1 : ¬ ((j : Int) < j) := by omega
                      have a2 : (j : Int) < 17 := by have := hkb.out; omega
                      have cr := hX.c.cellI j (by have := hcl3.out; have := hkb.out; omega)
                      have fr := hX.c.frozen j
                      go_wp2_with fail
                      replace hX := hX.setC hz j 1
                      rw [hBO.out] at hX
                      have hbl : Hd ((blockOf ys).length = 17) := hid (blockOf_length ys)
                      generalize blockOf ys = c2 at hX hHN hbl
                      have hPL : Hd ((plus1 h c2).length = 17) := hid (by rw [plus1_length]; exact hhl.out)
                      have hTL : Hd ((timesT (plus1 h c2) r).length = 17) := hid (timesT_length _ _)
                      refine wp_region_factsU (ix := [[0], [1], [2], [3], [4], [4]]) (S := fun w' => Blk w' g5 88 (ints .u32 r) ∧ Blk w' g7 88 (ints .u32 c2) ∧ (∃ hx, hx.length = 17 ∧ Blk w' g6 88 (ints .u32 hx)) ∧ ∃ hx, GB w w' g2 g4 g5 g6 g7 key r hx c2)
                        (R := fun iO w1 w2 => if iO = 5 then ∃ cs, w2 = w1.setRow g6 cs else (Below w1.heap.size w1 w2))
                        (U := fun iO w1 => match iO with
                          | 0 => Blk w1 g6 88 (ints .u32 h)
                          | _ => True)
                        (kill := fun jO => match jO with
                          | _ => none)
                        (p := fun jO vs w' => match jO with
                          | 0 => vs 0 = .agg (ints .u32 h).toArray
                          | 1 => vs 1 = .agg (ints .u32 c2).toArray
                          | 2 => vs 2 = .agg (ints .u32 (plus1 h c2)).toArray
                          | 3 => vs 3 = .agg (ints .u32 r).toArray
                          | 4 => vs 4 = .agg (ints .u32 (timesT (plus1 h c2) r)).toArray
                          | 5 => Blk w' g6 88 (ints .u32 (timesT (plus1 h c2) r))
                          | _ => True)
                        (ks := [])
                        (hm := by kernel_rfl) (hc := by kernel_rfl) ?_ ?_ ?_ ?_ ?_ ?_
                      · exact ⟨hX.r.drew, hX.c.drew, ⟨h, hX.hl, hX.h.drew⟩, h, hX.drew⟩
                      · intro iO jO vs w1 w2 hij hw hkl hR h
                        have hB : iO ≠ 5 → Below w1.heap.size w1 w2 := fun h5 => by rw [if_neg h5] at hR; exact hR
                        match jO with
                        | 0 | 1 | 2 | 3 | 4 => exact h
                        | 5 => exact Blk.belowAll h (hB (by rintro rfl; exact hij rfl))
                        | nO + 6 => trivial
                      · intro jO
                        match jO with
                        | 0 => exact hX.h.drew
                        | 1 | 2 | 3 | 4 | 5 | nO + 6 => trivial
                      · intro iO jO w1 w2 hij hw hR h
                        have hB : iO ≠ 5 → Below w1.heap.size w1 w2 := fun h5 => by rw [if_neg h5] at hR; exact hR
                        match jO with
                        | 0 => exact Blk.belowAll h (hB (by rintro rfl; exact absurd (Eq.trans (by kernel_rfl : true = _) hw) (by decide)))
                        | 1 | 2 | 3 | 4 | 5 | nO + 6 => trivial
                      · refine ⟨?_, ?_, ?_, ?_, ?_, ?_, trivial⟩
                        · (intro vs w2 hS hU hd; simp [Region.binds, Fact.at] at hd; simp only [fill, List.take_succ_cons, List.take_zero, Act.put, List.setIfInBounds_toArray, List.set_cons_zero, List.set_cons_succ, Nat.reduceAdd])
                          have hU' : Blk w2 g6 88 (ints .u32 h) := hU
                          go_wp2_with (first
                            | (refine load_blk rfl 88 _ rfl g6 rfl 88 _ hU' 17 43 arr88 (by simpa using hhl.out) info88 ?_)
                            | fail)
                          exact ⟨rfl, rfl, hS, Below.refl _ _⟩
                        · (intro vs w2 hS hU hd; simp [Region.binds, Fact.at] at hd; simp only [fill, List.take_succ_cons, List.take_zero, Act.put, List.setIfInBounds_toArray, List.set_cons_zero, List.set_cons_succ, Nat.reduceAdd])
                          try simp only [hd]
                          go_wp2_with (first
                            | (refine load_blk rfl 88 _ rfl g7 rfl 88 _ hS.2.1 17 43 arr88 (by simpa using hbl.out) info88 ?_)
                            | fail)
                          exact ⟨rfl, rfl, hS, Below.refl _ _⟩
                        · (intro vs w2 hS hU hd; simp [Region.binds, Fact.at] at hd; simp only [fill, List.take_succ_cons, List.take_zero, Act.put, List.setIfInBounds_toArray, List.set_cons_zero, List.set_cons_succ, Nat.reduceAdd])
                          try simp only [hd]
                          go_wp2_with (first
                            | (go_at_call 62; refine (plus1_calls h c2 _ hhl.out hbl.out).mono ?_; rintro e w3 ⟨rfl, hB9⟩)
                            | fail)
                          obtain ⟨h5, h7, ⟨hx, hxl, h6⟩, hy, hg⟩ := hS
                          exact ⟨rfl, rfl, ⟨h5.belowAll hB9, h7.belowAll hB9, ⟨hx, hxl, h6.belowAll hB9⟩, hy, hg.below hB9⟩, hB9⟩
                        · (intro vs w2 hS hU hd; simp [Region.binds, Fact.at] at hd; simp only [fill, List.take_succ_cons, List.take_zero, Act.put, List.setIfInBounds_toArray, List.set_cons_zero, List.set_cons_succ, Nat.reduceAdd])
                          try simp only [hd]
                          go_wp2_with (first
                            | (refine load_blk rfl 88 _ rfl g5 rfl 88 _ hS.1 17 43 arr88 (by simpa using hcm.out) info88 ?_)
                            | fail)
                          exact ⟨rfl, rfl, hS, Below.refl _ _⟩
                        · (intro vs w2 hS hU hd; simp [Region.binds, Fact.at] at hd; simp only [fill, List.take_succ_cons, List.take_zero, Act.put, List.setIfInBounds_toArray, List.set_cons_zero, List.set_cons_succ, Nat.reduceAdd])
                          try simp only [hd]
                          go_wp2_with (first
                            | (go_at_call 61; refine (times1_calls (plus1 h c2) r _ hPL.out hcm.out).mono ?_; rintro e w3 ⟨rfl, hB9⟩)
                            | fail)
                          obtain ⟨h5, h7, ⟨hx, hxl, h6⟩, hy, hg⟩ := hS
                          exact ⟨rfl, rfl, ⟨h5.belowAll hB9, h7.belowAll hB9, ⟨hx, hxl, h6.belowAll hB9⟩, hy, hg.below hB9⟩, hB9⟩
                        · (intro vs w2 hS hU hd; simp [Region.binds, Fact.at] at hd; simp only [fill, List.take_succ_cons, List.take_zero, Act.put, List.setIfInBounds_toArray, List.set_cons_zero, List.set_cons_succ, Nat.reduceAdd])
                          obtain ⟨h5, h7, ⟨hx, hxl, h6⟩, hy, hg⟩ := hS
                          simp only [hd]
                          go_wp2_with (first
                            | (refine store_blk rfl 88 _ _ rfl g6 (ints .u32 (timesT (plus1 h c2) r)) rfl rfl 88 _ h6 17 info88 (by simpa using hTL.out) (by simpa using hxl) (ints_one _ _) ?_)
                            | fail)
                          have hg2 := hg.rowH hz _ hTL.out
                          exact ⟨rfl, h6.setRow _, ⟨hg2.r, hg2.c, ⟨_, hTL.out, hg2.h⟩, _, hg2⟩, ⟨_, rfl⟩⟩
                      · intro vs wq hf hS
                        have h5 : Blk wq g6 88 (ints .u32 (timesT (plus1 h c2) r)) := hf 5 (by simp) rfl
                        obtain ⟨_, _, _, hy, hg⟩ := hS
                        have hX9 : GB w wq g2 g4 g5 g6 g7 key r (hTo r bs (n + 1)) c2 := by
                          rw [← hHN.out]
                          exact ⟨hTL.out, hg.k, hg.o, hg.r, h5, hg.c, hg.bel⟩
                        simp only [fill, Act.put, List.setIfInBounds_toArray, List.set_cons_zero, List.set_cons_succ, Nat.reduceAdd]
                        clear hf
                        go_wp2_with fail
                        go_roundg (gk1 - 1)
                        case measure => have := hq1.out; have := hgk.out; omega
                        case rel => exact ⟨n + 1, by omega, by go_num, hid (by have := hq1.out; have := hgk.out; omega), c2, hbl, hX9⟩
                · obtain rfl : n = (m + 15) / 16 := by omega
                  have a0 : ¬ (16 * (((m + 15) / 16 : Nat) : Int) < m) := by omega
                  clear hq hn hlt
                  generalize (m + 15) / 16 = n at hX HTAG a0
                  have hhl := hid hX.hl
                  generalize hTo r bs n = h at hX HTAG hhl
                  have hcl5 := hid hX.c.lt
                  go_wp2_with (first
                    | (refine load_blk rfl 88 (.tmp 14) rfl g14 rfl 88 _ hb14z 17 43 arr88 (by simpa using hhl.out) info88 ?_)
                    | (have hx := hB28; refine load_blk rfl 88 _ rfl g6 rfl 88 _ hX.h 17 43 arr88 (by simpa using hhl.out) info88 ?_; clear hx)
                    | (refine load_blk rfl 88 (.tmp 15) rfl g15 rfl 88 _ hb15y 17 43 arr88 (by rfl) info88 ?_)
                    | (have hx := hb14y; refine load_blk rfl 88 (.tmp 6) rfl g6 rfl 88 _ hX.h 17 43 arr88 (by simpa using hhl.out) info88 ?_; clear hx)
                    | (refine load_blk rfl 88 (.tmp 6) rfl g6 rfl 88 _ hX.h 17 43 arr88 (by simpa using hhl.out) info88 ?_)
                    | (have hx := hb14y; refine alloc_blk rfl 88 rfl _ rfl (ints .u32 (List.replicate 17 0)) zeroA17w ?_; clear hx; intro g15 w7 hg15 hb15 hB15 hs15
                       have hz15a : Hd (g14 < g15) := hid (by have := hb14y.lt; omega)
                       replace hX := hX.below hB15
                       replace hb14y := hb14y.belowAll hB15)
                    | (refine alloc_blk rfl 88 rfl _ rfl (ints .u32 (List.replicate 17 0)) zeroA17w ?_; intro g14 w6 hg14 hb14 hB14 hs14
                       replace hX := hX.below hB14)
                    | (refine build_to rfl 88 _ rfl (ints .u32 minusA).toArray (by kernel_rfl) ?_)
                    | (refine store_blk rfl 88 (.tmp 14) _ rfl g14 (ints .u32 h) rfl rfl 88 _ hb14 17 info88 (by simpa using hhl.out) (by simp) (ints_one _ _) ?_
                       have hz14 : Hd (g7 < g14) := hid (by have := hcl5.out; omega)
                       replace hX := hX.other hz hz14.out (ints .u32 h).toArray
                       have hb14y := hb14.setRow (ints .u32 h)
                       clear hb14 hB14 hs14 hg14
                       generalize w6.setRow g14 (ints .u32 h).toArray = w6' at *)
                    | (refine store_blk rfl 88 (.tmp 15) _ rfl g15 (ints .u32 minusA) rfl rfl 88 _ hb15 17 info88 (by rfl) (by simp) (ints_one _ _) ?_
                       have hz15 : Hd (g7 < g15 ∧ g14 < g15) := hid (by have := hz15a.out; have := hz14.out; omega)
                       replace hX := (hX.other hz hz15.out.1 (ints .u32 minusA).toArray).otherC hz hz15.out.1 16 (.int .u32 252)
                       replace hb14y := (hb14y.setRowOther (g' := g15) (by have := hz15.out; omega) (ints .u32 minusA).toArray).setOther (a := ⟨g15, 16, none⟩) (by have := hz15.out; simp; omega) (.int .u32 252)
                       have hb15x := hb15.setRow (ints .u32 minusA)
                       have c16 := hb15x.cellI 16 (by decide)
                       have f16 := hb15x.frozen 16
                       clear hb15 hB15 hs15 hg15
                       have hb15y := hb15x.setI 16 252)
                    | fail)
                  rw [minusA_set] at hb15y
                  rw [show minusA.set 16 252 = minusP from minusA_set]
                  clear c16 f16 hb15x hz15a
                  generalize (w7.setRow g15 (ints .u32 minusA).toArray).setCell ⟨g15, 16, none⟩ (.int .u32 252) = w8 at *
                  refine (plus1_calls h minusP _ hhl.out rfl).mono ?_
                  rintro e w9 ⟨rfl, hB28⟩
                  replace hX := hX.below hB28
                  replace hb14y := hb14y.belowAll hB28
                  have hPL : Hd ((plus1 h minusP).length = 17) := hid (by rw [plus1_length]; exact hhl.out)
                  have hF1 : rd (plus1 h minusP) 16 / 128 = 0 → Hd (finT h = plus1 h minusP) := fun h0 => hid (by rw [finT, if_pos h0])
                  have hF2 : ¬ rd (plus1 h minusP) 16 / 128 = 0 → Hd (finT h = h) := fun h0 => hid (by rw [finT, if_neg h0])
                  clear hb15y hB28 hz15
                  generalize plus1 h minusP = P at hPL hF1 hF2 ⊢
                  generalize finT h = F at hF1 hF2 HTAG
                  have hX6 := hX.rowH hz P hPL.out
                  have c16 := hX6.h.cellI 16 (by have := hPL.out; omega)
                  replace hb14y := hb14y.setRowOther (g' := g6) (by have := hz14.out; have := hz.out.e; omega) (ints .u32 P).toArray
                  by_cases hp0 : rd P 16 / 128 = 0
                  · have hF := hF1 hp0
                    clear hF1 hF2
                    go_wp2_with (first
                      | (have hx := hX7; refine store_blk rfl 88 (.tmp 7) _ rfl g7 (ints .u32 (List.replicate 17 0)) rfl rfl 88 _ hX7.c 17 info88 (by simp) (by simpa using hcl2.out) (ints_one _ _) ?_; clear hx)
                      | (refine store_blk rfl 88 (.tmp 6) _ rfl g6 (ints .u32 P) rfl rfl 88 _ hX.h 17 info88 (by simpa using hPL.out) (by simpa using hhl.out) (ints_one _ _) ?_
                         have hX7 := hX6
                         generalize w9.setRow g6 (ints .u32 P).toArray = wk at *)
                      | (refine build_to rfl 88 _ rfl (ints .u32 (List.replicate 17 0)).toArray (by kernel_rfl) ?_)
                      | fail)
                    replace hX := hX7.rowC hz (putTo (fun j => rd key (16 + j)) 0)
                    change GB w (wk.setRow g7 (ints .u32 (List.replicate 17 0)).toArray) g2 g4 g5 g6 g7 key r P (putTo (fun j => rd key (16 + j)) 0) at hX
                    change Code.wp _ _ _ _ (wk.setRow g7 (ints .u32 (List.replicate 17 0)).toArray)
                    rw [hF.out] at HTAG
                    have hLL := hid hX.hl
                    clear hX7 hX6 hb14y c16 hp0 hF
                    generalize wk.setRow g7 (ints .u32 (List.replicate 17 0)).toArray = wn at hX ⊢
                    go_loopg [16] 17 (fun kq v16 wr => ∃ j : Nat, j ≤ 16 ∧ v16 = .int .i64 j ∧ Hd (kq + j = 17) ∧ GB w wr g2 g4 g5 g6 g7 key r P (putTo (fun j => rd key (16 + j)) j))
                    case atStart => exact ⟨0, by omega, rfl, hid (by omega), hX⟩
                    case round =>
                      clear hX
                      obtain ⟨j, hj, rfl, hqj, hX⟩ := hrel
                      have hcl3 : Hd ((putTo (fun j => rd key (16 + j)) j).length = 17) := hid (putTo_length _ _)
                      by_cases hjlt : j < 16
                      · have a1 : (j : Int) < 17 := by omega
                        have a2 : 16 + (j : Int) < 32 := by omega
                        obtain ⟨q, hqq⟩ : ∃ q : Nat, Hd (q = 16 + j) := ⟨_, hid rfl⟩
                        have a3 : 16 + (j : Int) = (q : Int) := by have := hqq.out; omega
                        have a4 : (q : Int) < 32 := by have := hqq.out; omega
                        have a5 : IntKind.i64.wrap (q : Int) = (q : Int) := IntWalk.i64_in _ (by omega)
                        have ck := hX.k.cellI q (by have := HK.out; omega)
                        have cr := hX.c.cellI j (by have := hcl3.out; omega)
                        have fr := hX.c.frozen j
                        have kb := rk q
                        have hE : Hd (putTo (fun j => rd key (16 + j)) (j + 1) = (putTo (fun j => rd key (16 + j)) j).set j (rd key q)) := hid (by rw [putTo_succ, hqq.out])
                        generalize rd key q = K at ck kb hE
                        go_wp2_with fail
                        go_roundg (gk - 1)
                        case measure => have := hqj.out; omega
                        case rel => exact ⟨j + 1, by omega, by go_num, hid (by have := hqj.out; omega), by rw [hE.out]; exact hX.setC hz j K⟩
                      · obtain rfl : j = 16 := by omega
                        clear hqj hj hjlt
                        generalize putTo (fun j => rd key (16 + j)) 16 = c3 at hX HTAG hcl3
                        have hPL2 : Hd ((plus1 P c3).length = 17) := hid (by rw [plus1_length]; exact hLL.out)
                        go_wp2_with (first
                          | (refine load_blk rfl 88 (.tmp 6) rfl g6 rfl 88 _ hX.h 17 43 arr88 (by simpa using hLL.out) info88 ?_)
                          | (refine load_blk rfl 88 (.tmp 7) rfl g7 rfl 88 _ hX.c 17 43 arr88 (by simpa using hcl3.out) info88 ?_)
                          | (go_at_call 62; refine (plus1_calls P c3 _ hLL.out hcl3.out).mono ?_; rintro e w10 ⟨rfl, hB29⟩
                             replace hX := hX.below hB29
                             generalize plus1 P c3 = H at *)
                          | (refine store_blk rfl 88 (.tmp 6) _ rfl g6 (ints .u32 H) rfl rfl 88 _ hX.h 17 info88 (by simpa using hPL2.out) (by simpa using hLL.out) (ints_one _ _) ?_
                             replace hX := hX.rowH hz H hPL2.out
                             clear hB29
                             generalize w10.setRow g6 (ints .u32 H).toArray = w11 at *)
                          | (refine alloc_blk rfl 46 rfl _ rfl (ints .u8 (List.replicate 16 0)) zeroT16 ?_; intro g17 w12 hg17 hb17 hB17 hs17)
                          | fail)
                        have hz17 : Hd (g7 < g17) := hid (by have := hX.c.lt; omega)
                        replace hX := hX.below hB17
                        clear hg17 hB17 hs17
                        go_loopg [18] 17 (fun kq v18 wr => ∃ j : Nat, j ≤ 16 ∧ v18 = .int .i64 j ∧ Hd (kq + j = 17) ∧ GB w wr g2 g4 g5 g6 g7 key r H c3 ∧ Blk wr g17 46 (ints .u8 (outT H j)))
                        case atStart => exact ⟨0, by omega, rfl, hid (by omega), hX, hb17⟩
                        case round =>
                          clear hX hb17
                          obtain ⟨j, hj, rfl, hqj, hX, hb17⟩ := hrel
                          have hcl6 : Hd ((outT H j).length = 16) := hid (outT_length _ _)
                          by_cases hjlt : j < 16
                          · have a1 : (j : Int) < 17 := by omega
                            have a2 : (j : Int) < 16 := by omega
                            have ch := hX.h.cellI j (by have := hPL2.out; omega)
                            have cr := hb17.cellI j (by have := hcl6.out; omega)
                            have fr := hb17.frozen j
                            have hE : Hd (outT H (j + 1) = (outT H j).set j (rd H j % 256)) := hid (outT_succ _ _)
                            generalize rd H j = K at ch hE
                            go_wp2_with fail
                            go_roundg (gk - 1)
                            case measure => have := hqj.out; omega
                            case rel => exact ⟨j + 1, by omega, by go_num, hid (by have := hqj.out; omega), hX.otherC hz hz17.out j _, by rw [hE.out]; exact hb17.setI j _⟩
                          · obtain rfl : j = 16 := by omega
                            clear hqj hj hjlt
                            rw [HTAG.out] at hb17 hcl6
                            obtain ⟨TT, hTT⟩ : ∃ TT, Hd (tagT key bs = TT) := ⟨_, hid rfl⟩
                            rw [hTT.out] at hb17 hcl6
                            go_wp2_with (first
                              | (refine load_blk rfl 46 _ rfl g17 rfl 46 _ hb17 16 5 undT16 (by simpa using hcl6.out) infoT16 ?_)
                              | (refine store_blk rfl 46 _ _ rfl g4 (ints .u8 TT) rfl rfl 46 _ hX.o 16 infoT16 (by simpa using hcl6.out) (by simp) (ints_one _ _) ?_)
                              | fail)
                            refine bodyPost_ret (results_blk rfl _ _ g4 46 _ 16 5 rfl (hX.o.setRow _) undT16 (by simpa using hcl6.out) infoT16) rfl ?_
                            exact ⟨by rw [hTT.out], below_setRow hX.bel (by have h1 := hz.out.a; have h2 := hz.out.b; omega) _⟩
                  · have hF := hF2 hp0
                    clear hF1 hF2
                    go_wp2_with (first
                      | (have hx := hX7; refine store_blk rfl 88 (.tmp 7) _ rfl g7 (ints .u32 (List.replicate 17 0)) rfl rfl 88 _ hX7.c 17 info88 (by simp) (by simpa using hcl2.out) (ints_one _ _) ?_; clear hx)
                      | (have hx := hy6; refine store_blk rfl 88 (.tmp 6) _ rfl g6 (ints .u32 h) rfl rfl 88 _ hX6.h 17 info88 (by simpa using hhl.out) (by simpa using hPL.out) (ints_one _ _) ?_; clear hx
                         have hX7 := hX6.rowH hz h hhl.out
                         generalize (wj.setRow g6 (ints .u32 h).toArray) = wk at *)
                      | (refine load_blk rfl 88 (.tmp 14) rfl g14 rfl 88 _ hb14y 17 43 arr88 (by simpa using hhl.out) info88 ?_)
                      | (refine store_blk rfl 88 (.tmp 6) _ rfl g6 (ints .u32 P) rfl rfl 88 _ hX.h 17 info88 (by simpa using hPL.out) (by simpa using hhl.out) (ints_one _ _) ?_
                         have hy6 := hX6.h
                         generalize w9.setRow g6 (ints .u32 P).toArray = wj at *)
                      | (refine build_to rfl 88 _ rfl (ints .u32 (List.replicate 17 0)).toArray (by kernel_rfl) ?_)
                      | fail)
                    replace hX := hX7.rowC hz (putTo (fun j => rd key (16 + j)) 0)
                    change GB w (wk.setRow g7 (ints .u32 (List.replicate 17 0)).toArray) g2 g4 g5 g6 g7 key r h (putTo (fun j => rd key (16 + j)) 0) at hX
                    change Code.wp _ _ _ _ (wk.setRow g7 (ints .u32 (List.replicate 17 0)).toArray)
                    rw [hF.out] at HTAG
                    have hLL := hid hX.hl
                    clear hX7 hX6 hb14y c16 hp0 hF
                    generalize wk.setRow g7 (ints .u32 (List.replicate 17 0)).toArray = wn at hX ⊢
                    go_loopg [16] 17 (fun kq v16 wr => ∃ j : Nat, j ≤ 16 ∧ v16 = .int .i64 j ∧ Hd (kq + j = 17) ∧ GB w wr g2 g4 g5 g6 g7 key r h (putTo (fun j => rd key (16 + j)) j))
                    case atStart => exact ⟨0, by omega, rfl, hid (by omega), hX⟩
                    case round =>
                      clear hX
                      obtain ⟨j, hj, rfl, hqj, hX⟩ := hrel
                      have hcl3 : Hd ((putTo (fun j => rd key (16 + j)) j).length = 17) := hid (putTo_length _ _)
                      by_cases hjlt : j < 16
                      · have a1 : (j : Int) < 17 := by omega
                        have a2 : 16 + (j : Int) < 32 := by omega
                        obtain ⟨q, hqq⟩ : ∃ q : Nat, Hd (q = 16 + j) := ⟨_, hid rfl⟩
                        have a3 : 16 + (j : Int) = (q : Int) := by have := hqq.out; omega
                        have a4 : (q : Int) < 32 := by have := hqq.out; omega
                        have a5 : IntKind.i64.wrap (q : Int) = (q : Int) := IntWalk.i64_in _ (by omega)
                        have ck := hX.k.cellI q (by have := HK.out; omega)
                        have cr := hX.c.cellI j (by have := hcl3.out; omega)
                        have fr := hX.c.frozen j
                        have kb := rk q
                        have hE : Hd (putTo (fun j => rd key (16 + j)) (j + 1) = (putTo (fun j => rd key (16 + j)) j).set j (rd key q)) := hid (by rw [putTo_succ, hqq.out])
                        generalize rd key q = K at ck kb hE
                        go_wp2_with fail
                        go_roundg (gk - 1)
                        case measure => have := hqj.out; omega
                        case rel => exact ⟨j + 1, by omega, by go_num, hid (by have := hqj.out; omega), by rw [hE.out]; exact hX.setC hz j K⟩
                      · obtain rfl : j = 16 := by omega
                        clear hqj hj hjlt
                        generalize putTo (fun j => rd key (16 + j)) 16 = c3 at hX HTAG hcl3
                        have hPL2 : Hd ((plus1 h c3).length = 17) := hid (by rw [plus1_length]; exact hLL.out)
                        go_wp2_with (first
                          | (refine load_blk rfl 88 (.tmp 6) rfl g6 rfl 88 _ hX.h 17 43 arr88 (by simpa using hLL.out) info88 ?_)
                          | (refine load_blk rfl 88 (.tmp 7) rfl g7 rfl 88 _ hX.c 17 43 arr88 (by simpa using hcl3.out) info88 ?_)
                          | (go_at_call 62; refine (plus1_calls h c3 _ hLL.out hcl3.out).mono ?_; rintro e w10 ⟨rfl, hB29⟩
                             replace hX := hX.below hB29
                             generalize plus1 h c3 = H at *)
                          | (refine store_blk rfl 88 (.tmp 6) _ rfl g6 (ints .u32 H) rfl rfl 88 _ hX.h 17 info88 (by simpa using hPL2.out) (by simpa using hLL.out) (ints_one _ _) ?_
                             replace hX := hX.rowH hz H hPL2.out
                             clear hB29
                             generalize w10.setRow g6 (ints .u32 H).toArray = w11 at *)
                          | (refine alloc_blk rfl 46 rfl _ rfl (ints .u8 (List.replicate 16 0)) zeroT16 ?_; intro g17 w12 hg17 hb17 hB17 hs17)
                          | fail)
                        have hz17 : Hd (g7 < g17) := hid (by have := hX.c.lt; omega)
                        replace hX := hX.below hB17
                        clear hg17 hB17 hs17
                        go_loopg [18] 17 (fun kq v18 wr => ∃ j : Nat, j ≤ 16 ∧ v18 = .int .i64 j ∧ Hd (kq + j = 17) ∧ GB w wr g2 g4 g5 g6 g7 key r H c3 ∧ Blk wr g17 46 (ints .u8 (outT H j)))
                        case atStart => exact ⟨0, by omega, rfl, hid (by omega), hX, hb17⟩
                        case round =>
                          clear hX hb17
                          obtain ⟨j, hj, rfl, hqj, hX, hb17⟩ := hrel
                          have hcl6 : Hd ((outT H j).length = 16) := hid (outT_length _ _)
                          by_cases hjlt : j < 16
                          · have a1 : (j : Int) < 17 := by omega
                            have a2 : (j : Int) < 16 := by omega
                            have ch := hX.h.cellI j (by have := hPL2.out; omega)
                            have cr := hb17.cellI j (by have := hcl6.out; omega)
                            have fr := hb17.frozen j
                            have hE : Hd (outT H (j + 1) = (outT H j).set j (rd H j % 256)) := hid (outT_succ _ _)
                            generalize rd H j = K at ch hE
                            go_wp2_with fail
                            go_roundg (gk - 1)
                            case measure => have := hqj.out; omega
                            case rel => exact ⟨j + 1, by omega, by go_num, hid (by have := hqj.out; omega), hX.otherC hz hz17.out j _, by rw [hE.out]; exact hb17.setI j _⟩
                          · obtain rfl : j = 16 := by omega
                            clear hqj hj hjlt
                            rw [HTAG.out] at hb17 hcl6
                            obtain ⟨TT, hTT⟩ : ∃ TT, Hd (tagT key bs = TT) := ⟨_, hid rfl⟩
                            rw [hTT.out] at hb17 hcl6
                            go_wp2_with (first
                              | (refine load_blk rfl 46 _ rfl g17 rfl 46 _ hb17 16 5 undT16 (by simpa using hcl6.out) infoT16 ?_)
                              | (refine store_blk rfl 46 _ _ rfl g4 (ints .u8 TT) rfl rfl 46 _ hX.o 16 infoT16 (by simpa using hcl6.out) (by simp) (ints_one _ _) ?_)
                              | fail)
                            refine bodyPost_ret (results_blk rfl _ _ g4 46 _ 16 5 rfl (hX.o.setRow _) undT16 (by simpa using hcl6.out) infoT16) rfl ?_
                            exact ⟨by rw [hTT.out], below_setRow hX.bel (by have h1 := hz.out.a; have h2 := hz.out.b; omega) _⟩
end Go.Proofs.YtpmmmbilfblcpaaDoor
