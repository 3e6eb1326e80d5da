import Derived.Lib.AppendZerosOnto
import Derived.Test.YtlikinglgegclaaDoorMgTO0
import Derived.Test.YtlikinglgegclaaDoorMgTO1
import Derived.Test.YtlikinglgegclaaDoorMgTO2
import Derived.Test.YtlikinglgegclaaDoorMgTO3
import Derived.Test.YtlikinglgegclaaDoorMgTO4
import Derived.Test.YtlikinglgegclaaDoorMgTO5
import Derived.Test.YtlikinglgegclaaDoorMgTO6
import Derived.Test.YtlikinglgegclaaDoorMgTO7
import Derived.Test.YtlikinglgegclaaDoorMgTO8
import Derived.Test.YtlikinglgegclaaDoorMgTO9
import Derived.Test.YtlikinglgegclaaDoorMgTO10
set_option linter.unusedSimpArgs false
set_option linter.unusedVariables false
open List (getElem_toArray getElem_cons_zero getElem_cons_succ)
/- append(s, make([]T, n)...): numbers, zeros behind them. -/
namespace Go.Cour
open Go.RowKit
end Go.Cour
/- aead.padded, aead.length. -/
namespace Go.Proofs.YtlikinglgegclaaDoor
open Go.RowKit Go.Cour
/-- How many zeros fill n to sixteens. -/
def gap (n : Nat) : Nat := (16 - n % 16) % 16
def padTo (xs b : List Int) : List Int := xs ++ b ++ List.replicate (gap b.length) 0
/-- A length, in eight bytes. -/
def lenTo (n : Nat) (i : Nat) : List Int := (List.range i).map fun j => (n : Int) / 2 ^ (8 * j) % 256
theorem lenTo_succ (n i : Nat) : lenTo n (i + 1) = lenTo n i ++ [(n : Int) / 2 ^ (8 * i) % 256] := by simp [lenTo, List.range_succ]
theorem lenTo_length (n i : Nat) : (lenTo n i).length = i := by simp [lenTo]
end Go.Proofs.YtlikinglgegclaaDoor
/- aead.tag. -/
namespace Go.Proofs.YtlikinglgegclaaDoor
open Go.RowKit Go.Cour
/-- What a tag is of. -/
def tagText (ad b : List Int) : List Int := padTo (padTo [] ad) b ++ lenTo ad.length 8 ++ lenTo b.length 8
def tagOf (key nonce ad b : List Int) : List Int := polySum ((block key 0 nonce).take 32) (tagText ad b)
theorem zeroT16 : ((Tryd.prog.info? 125).bind (·.zero)).map (·.cells) = some (ints .u8 (List.replicate 16 0)).toArray := by kernel_rfl
theorem infoT16 : (Tryd.prog.info? 125).map (·.size) = some 16 := by kernel_rfl
theorem undT16 : Tryd.prog.underlying 125 = some (.array 16 5) := by kernel_rfl
/-- What stays while a tag's last part is reckoned. -/
structure TagS (w : World) (g8 g9 B1 : Nat) (cs : List Int) (w' : World) : Prop where
  blk : Blk w' g9 142 (ints .u8 cs)
  bel : Below w.heap.size w w'
  size : B1 ≤ w'.heap.size
  out : ∃ old, Blk w' g8 125 old ∧ old.length = 16
theorem TagS.below {w : World} {g8 g9 B1 : Nat} {cs : List Int} {w' w2 : World} (h : TagS w g8 g9 B1 cs w') (hb : Below B1 w' w2) (h8 : g8 < B1) (h9 : g9 < B1) (hw : w.heap.size ≤ B1) : TagS w g8 g9 B1 cs w2 := by
  obtain ⟨old, h1, h2⟩ := h.out
  exact ⟨h.blk.below hb h9, ⟨hb.os.trans h.bel.os, hb.tape.trans h.bel.tape, hb.output.trans h.bel.output, Nat.le_trans h.bel.size hb.size, fun k hk => (hb.block k (by omega)).trans (h.bel.block k hk)⟩,
    Nat.le_trans h.size hb.size, old, h1.below hb h8, h2⟩
end Go.Proofs.YtlikinglgegclaaDoor
/- aead.Seal. -/
namespace Go.Proofs.YtlikinglgegclaaDoor
open Go.RowKit Go.Cour
def sealText (key nonce ad b : List Int) : List Int := xorStream key 1 nonce b ++ tagOf key nonce ad (xorStream key 1 nonce b)
theorem tagOf_length (key nonce ad b : List Int) : (tagOf key nonce ad b).length = 16 := polySum_length _ _
end Go.Proofs.YtlikinglgegclaaDoor
/- stream.nonce. -/
namespace Go.Proofs.YtlikinglgegclaaDoor
open Go.RowKit Go.Cour
/-- A chunk's nonce. -/
def nonceOf (i : Int) (last : Bool) : List Int := [0, 0, 0, 0, 0, 0, 0, i / 16777216, i / 65536 % 256, i / 256 % 256, i % 256, if last then 1 else 0]
theorem nonceOf_length (i : Int) (last : Bool) : (nonceOf i last).length = 12 := rfl
theorem infoN12 : (Tryd.prog.info? 91).map (·.size) = some 12 := by kernel_rfl
theorem undN12 : Tryd.prog.underlying 91 = some (.array 12 5) := by kernel_rfl
theorem zeroN12 : ((Tryd.prog.info? 91).bind (·.zero)).map (·.cells) = some (ints .u8 (List.replicate 12 0)).toArray := by kernel_rfl
end Go.Proofs.YtlikinglgegclaaDoor
/- stream.Piece. -/
namespace Go.Proofs.YtlikinglgegclaaDoor
open Go.RowKit Go.Cour
attribute [local go_sem] max2_int min2_int
/-- A piece of a file. -/
def pieceOf (xs : List Int) (q i : Int) : List Int := if i < 0 ∨ (xs.length : Int) / max q 1 < i then [] else (xs.drop (i * max q 1).toNat).take (max q 1).toNat
theorem rd_sliceC {w : World} {A : Option Addr} {k : IntKind} {xs : List Int} (h : Rd w A k xs) (f : Nat) : Rd w (A.map (·.add f)) k (xs.drop f) := by
  rcases h with h | ⟨g, o, rfl, h⟩
  · exact .inl (by rw [h]; simp)
  · refine .inr ⟨g, o + f, by rw [Option.map_some, add_lit], fun i hi => ?_⟩
    rw [rd_drop, Nat.add_assoc]
    exact h _ (by rw [List.length_drop] at hi; omega)
theorem min_k1 (n f k : Nat) (c : Int) (hc : 1 ≤ c) (hk : k = min c.toNat (n - f)) (hf : f ≤ n) : (if (n : Int) - (f : Int) < c then (n : Int) - (f : Int) else c) = (k : Int) := by
  by_cases h : (n : Int) - (f : Int) < c
  · rw [if_pos h]; omega
  · rw [if_neg h]; omega
theorem min_k2 (n f k : Nat) (c : Int) (hc : 1 ≤ c) (hk : k = min c.toNat (n - f)) (hf : f ≤ n) : (if c < (n : Int) - (f : Int) then c else (n : Int) - (f : Int)) = (k : Int) := by
  by_cases h : c < (n : Int) - (f : Int)
  · rw [if_pos h]; omega
  · rw [if_neg h]; omega
end Go.Proofs.YtlikinglgegclaaDoor
/- stream.Seal. -/
namespace Go.Proofs.YtlikinglgegclaaDoor
open Go.RowKit Go.Cour
/-- A sealed chunk. -/
def ssealText (key : List Int) (i : Int) (last : Bool) (b : List Int) : List Int := sealText key (nonceOf i last) [] b
theorem nonceOf_ok (i : Int) (last : Bool) (hi : 0 ≤ i ∧ i < 4294967296) : bytesOk (nonceOf i last) := by
  intro j
  have h : j = 0 ∨ j = 1 ∨ j = 2 ∨ j = 3 ∨ j = 4 ∨ j = 5 ∨ j = 6 ∨ j = 7 ∨ j = 8 ∨ j = 9 ∨ j = 10 ∨ j = 11 ∨ 12 ≤ j := by omega
  rcases h with rfl | rfl | rfl | rfl | rfl | rfl | rfl | rfl | rfl | rfl | rfl | rfl | h
  case inr.inr.inr.inr.inr.inr.inr.inr.inr.inr.inr.inr =>
    have : rd (nonceOf i last) j = 0 := by unfold rd; rw [List.getD_eq_getElem?_getD, List.getElem?_eq_none (by rw [nonceOf_length]; exact h)]; rfl
    omega
  all_goals cases last <;> simp [rd, nonceOf] <;> omega
end Go.Proofs.YtlikinglgegclaaDoor
/- stream.All. -/
namespace Go.Proofs.YtlikinglgegclaaDoor
open Go.RowKit Go.Cour
theorem countI_bounds (p q : Int) : 1 ≤ countI p q ∧ countI p q ≤ max p 1 := by
  have h1 : 0 ≤ max p 0 / max q 1 := Int.ediv_nonneg (by omega) (by omega)
  have h2 : max p 0 / max q 1 * max q 1 ≤ max p 0 := Int.ediv_mul_le _ (by omega)
  have h3 : max p 0 / max q 1 ≤ max p 0 := Int.ediv_le_self _ (by omega)
  have h4 : max p 0 / max q 1 ≤ max p 0 / max q 1 * max q 1 := by have := Int.mul_le_mul_of_nonneg_left (show (1 : Int) ≤ max q 1 by omega) h1; rwa [Int.mul_one] at this
  unfold countI countD
  generalize max p 0 / max q 1 * max q 1 = e at *
  generalize max p 0 / max q 1 = d at *
  split <;> omega
/-- The chunks of a file, sealed, the first j of them. -/
def allTo (key xs : List Int) (q n : Int) (j : Nat) : List (List Int) := (List.range j).map fun (i : Nat) => ssealText key i ((i : Int) == n - 1) (pieceOf xs q i)
def allTexts (key xs : List Int) (q : Int) : List (List Int) := allTo key xs q (countI xs.length q) (countI xs.length q).toNat
theorem allTo_succ (key xs : List Int) (q n : Int) (j : Nat) : allTo key xs q n (j + 1) = allTo key xs q n j ++ [ssealText key j ((j : Int) == n - 1) (pieceOf xs q j)] := by simp [allTo, List.range_succ]
theorem allTo_length (key xs : List Int) (q n : Int) (j : Nat) : (allTo key xs q n j).length = j := by simp [allTo]
theorem pieceOf_le (xs : List Int) (q i : Int) : (pieceOf xs q i).length ≤ xs.length := by
  unfold pieceOf
  split
  · simp
  · rw [List.length_take, List.length_drop]; omega
theorem infoLL : (Tryd.prog.info? 24).map (fun i => (i.zero.map (·.cells.size), i.size, i.bytes)) = some (some 1, 1, 24) := by kernel_rfl
theorem undLL : Tryd.prog.underlying 83 = some (.slice 24) := by kernel_rfl
theorem sizeBytes : (Tryd.prog.info? 24).map (·.size) = some 1 := by kernel_rfl
theorem zeroBytes : ((Tryd.prog.info? 24).bind (·.zero)).isSome = true := by kernel_rfl
end Go.Proofs.YtlikinglgegclaaDoor
/- The reference's tag. -/
namespace Go.Proofs.YtlikinglgegclaaDoor
open Go.RowKit Go.Cour
attribute [local go_sem] max2_int min2_int
theorem bits_and_u32_nat (a b : Nat) (ha : a < 4294967296) (hb : b < 4294967296) : bits .and .u32 (a : Int) (b : Int) = ((a &&& b : Nat) : Int) := by
  have hx : a &&& b < 2 ^ 32 := Nat.and_lt_two_pow _ (by omega)
  have h1 : (BitVec.ofInt 32 (a : Int)).toNat = a := by
    rw [BitVec.ofInt_natCast, BitVec.toNat_ofNat]; exact Nat.mod_eq_of_lt (by omega)
  have h2 : (BitVec.ofInt 32 (b : Int)).toNat = b := by
    rw [BitVec.ofInt_natCast, BitVec.toNat_ofNat]; exact Nat.mod_eq_of_lt (by omega)
  show IntKind.u32.wrap ((BitVec.ofInt 32 (a : Int) &&& BitVec.ofInt 32 (b : Int)).toNat : Int) = _
  rw [BitVec.toNat_and, h1, h2, IntKind.wrap_u32]
  omega
theorem and_u32_u8 (x : Int) (m : Nat) (hx : 0 ≤ x ∧ x < 256) (hm : m < 256) : bits .and .u32 x (m : Int) = bits .and .u8 x (m : Int) := by
  obtain ⟨a, rfl⟩ : ∃ a : Nat, x = (a : Int) := ⟨x.toNat, by omega⟩
  rw [bits_and_u8_nat a m (by omega) hm, bits_and_u32_nat a m (by omega) (by omega)]
/-- A list put into seventeen zeros. -/
def putTo (f : Nat → Int) (n : Nat) : List Int := (List.range n).foldl (fun s i => s.set i (f i)) (List.replicate 17 0)
theorem putTo_succ (f : Nat → Int) (n : Nat) : putTo f (n + 1) = (putTo f n).set n (f n) := foldl_succ _ _ _
theorem putTo_length (f : Nat → Int) : ∀ n, (putTo f n).length = 17
  | 0 => by simp [putTo]
  | n + 1 => by rw [putTo_succ, List.length_set]; exact putTo_length f n
theorem rd_putTo (f : Nat → Int) (i : Nat) : ∀ n, n ≤ 17 → rd (putTo f n) i = if i < n then f i else 0
  | 0, _ => by
    rw [if_neg (by omega)]
    exact rd_rep0 _ _
  | n + 1, hn => by
    rw [putTo_succ, rd_set', putTo_length, rd_putTo f i n (by omega)]
    by_cases h1 : n = i
    · subst h1
      rw [if_pos ⟨rfl, by omega⟩, if_pos (by omega)]
    · rw [if_neg (by omega)]
      by_cases h2 : i < n
      · rw [if_pos h2, if_pos (by omega)]
      · rw [if_neg h2, if_neg (by omega)]
theorem putTo_key (key : List Int) (hk : key.length = 32) : putTo (rd key) 16 = key.take 16 ++ [0] := by
  have hl : (key.take 16).length = 16 := by rw [List.length_take]; omega
  refine ext_rd (by rw [putTo_length, List.length_append, hl]; rfl) fun i hi => ?_
  rw [putTo_length] at hi
  rw [rd_putTo _ _ _ (by omega), rd_app, hl]
  by_cases h : i < 16
  · rw [if_pos h, if_pos h, rd_take _ _ _ h]
  · rw [if_neg h, if_neg h, show i - 16 = 0 by omega]
    rfl
theorem putTo_block (ys : List Int) : (putTo (rd ys) (min ys.length 16)).set (min ys.length 16) 1 = blockOf ys := by
  refine ext_rd (by rw [List.length_set, putTo_length, blockOf_length]) fun i hi => ?_
  rw [List.length_set, putTo_length] at hi
  rw [rd_set', putTo_length, rd_putTo _ _ _ (by omega), rd_blockOf ys i hi]
  by_cases h : i = min ys.length 16
  · rw [if_pos ⟨h.symm, hi⟩, if_pos h]
  · rw [if_neg (by omega), if_neg h]
/-- What is summed behind so many blocks. -/
def hTo (r bs : List Int) : Nat → List Int
  | 0 => List.replicate 17 0
  | n + 1 => timesT (plus1 (hTo r bs n) (blockOf (bs.drop (16 * n)))) r
theorem endT_length (s : List Int × Int) : (endT s).length = s.1.length := by simp [endT]
theorem midT_length (s : List Int × Int) : (midT s).1.length = s.1.length := by simp [midT]
theorem timesT_length (h r : List Int) : (timesT h r).length = 17 := by rw [timesT, endT_length, carT_length, midT_length, carT_length, xTo_length]
theorem plus1_length (h c : List Int) : (plus1 h c).length = h.length := plusS_length h c 17
def minusP : List Int := [5, 0, 0, 0, 0, 0, 0, 0, 0, 0, 0, 0, 0, 0, 0, 0, 252]
def minusA : List Int := [5, 0, 0, 0, 0, 0, 0, 0, 0, 0, 0, 0, 0, 0, 0, 0, 0]
theorem minusA_set : minusA.set 16 252 = minusP := rfl
def finT (h : List Int) : List Int := if rd (plus1 h minusP) 16 / 128 = 0 then plus1 h minusP else h
def outT (h : List Int) (n : Nat) : List Int := (List.range n).foldl (fun s i => s.set i (rd h i % 256)) (List.replicate 16 0)
theorem outT_succ (h : List Int) (n : Nat) : outT h (n + 1) = (outT h n).set n (rd h n % 256) := foldl_succ _ _ _
theorem outT_length (h : List Int) : ∀ n, (outT h n).length = 16
  | 0 => by simp [outT]
  | n + 1 => by rw [outT_succ, List.length_set]; exact outT_length h n
def tagT (key bs : List Int) : List Int := outT (plus1 (finT (hTo (rbytes key) bs ((bs.length + 15) / 16))) (putTo (fun j => rd key (16 + j)) 16)) 16
/-- What the blocks of a call hold. -/
structure GB (w wr : World) (g2 g4 g5 g6 g7 : Nat) (key r h c : List Int) : Prop where
  hl : h.length = 17
  k : Blk wr g2 27 (ints .u8 key)
  o : Blk wr g4 125 (ints .u8 (List.replicate 16 0))
  r : Blk wr g5 156 (ints .u32 r)
  h : Blk wr g6 156 (ints .u32 h)
  c : Blk wr g7 156 (ints .u32 c)
  bel : Below w.heap.size w wr
structure GZ (w : World) (g2 g4 g5 g6 g7 : Nat) : Prop where
  a : w.heap.size ≤ g2
  b : g2 < g4
  c : g4 < g5
  d : g5 < g6
  e : g6 < g7
theorem GB.setR {w wr : World} {g2 g4 g5 g6 g7 : Nat} {key r h c : List Int} (H : GB w wr g2 g4 g5 g6 g7 key r h c) (z : Hd (GZ w g2 g4 g5 g6 g7)) (i : Nat) (x : Int) : GB w (wr.setCell ⟨g5, i, none⟩ (.int .u32 x)) g2 g4 g5 g6 g7 key (r.set i x) h c := by
  obtain ⟨a, b, c', d, e⟩ := z.out
  exact ⟨H.hl, H.k.setOther (by simp; omega) _, H.o.setOther (by simp; omega) _, H.r.setI i x, H.h.setOther (by simp; omega) _, H.c.setOther (by simp; omega) _, H.bel.setCell (by simp; omega) _⟩
theorem GB.setC {w wr : World} {g2 g4 g5 g6 g7 : Nat} {key r h c : List Int} (H : GB w wr g2 g4 g5 g6 g7 key r h c) (z : Hd (GZ w g2 g4 g5 g6 g7)) (i : Nat) (x : Int) : GB w (wr.setCell ⟨g7, i, none⟩ (.int .u32 x)) g2 g4 g5 g6 g7 key r h (c.set i x) := by
  obtain ⟨a, b, c', d, e⟩ := z.out
  exact ⟨H.hl, H.k.setOther (by simp; omega) _, H.o.setOther (by simp; omega) _, H.r.setOther (by simp; omega) _, H.h.setOther (by simp; omega) _, H.c.setI i x, H.bel.setCell (by simp; omega) _⟩
theorem GB.rowC {w wr : World} {g2 g4 g5 g6 g7 : Nat} {key r h c : List Int} (H : GB w wr g2 g4 g5 g6 g7 key r h c) (z : Hd (GZ w g2 g4 g5 g6 g7)) (c2 : List Int) : GB w (wr.setRow g7 (ints .u32 c2).toArray) g2 g4 g5 g6 g7 key r h c2 := by
  obtain ⟨a, b, c', d, e⟩ := z.out
  exact ⟨H.hl, H.k.setRowOther (by omega) _, H.o.setRowOther (by omega) _, H.r.setRowOther (by omega) _, H.h.setRowOther (by omega) _, H.c.setRow _, below_setRow H.bel (by omega) _⟩
theorem GB.rowH {w wr : World} {g2 g4 g5 g6 g7 : Nat} {key r h c : List Int} (H : GB w wr g2 g4 g5 g6 g7 key r h c) (z : Hd (GZ w g2 g4 g5 g6 g7)) (h2 : List Int) (hl2 : h2.length = 17) : GB w (wr.setRow g6 (ints .u32 h2).toArray) g2 g4 g5 g6 g7 key r h2 c := by
  obtain ⟨a, b, c', d, e⟩ := z.out
  exact ⟨hl2, H.k.setRowOther (by omega) _, H.o.setRowOther (by omega) _, H.r.setRowOther (by omega) _, H.h.setRow _, H.c.setRowOther (by omega) _, below_setRow H.bel (by omega) _⟩
theorem GB.other {w wr : World} {g2 g4 g5 g6 g7 g : Nat} {key r h c : List Int} (H : GB w wr g2 g4 g5 g6 g7 key r h c) (z : Hd (GZ w g2 g4 g5 g6 g7)) (hg : g7 < g) (cs : Array Value) : GB w (wr.setRow g cs) g2 g4 g5 g6 g7 key r h c := by
  obtain ⟨a, b, c', d, e⟩ := z.out
  exact ⟨H.hl, H.k.setRowOther (by omega) _, H.o.setRowOther (by omega) _, H.r.setRowOther (by omega) _, H.h.setRowOther (by omega) _, H.c.setRowOther (by omega) _, below_setRow H.bel (by omega) _⟩
theorem GB.otherC {w wr : World} {g2 g4 g5 g6 g7 g : Nat} {key r h c : List Int} (H : GB w wr g2 g4 g5 g6 g7 key r h c) (z : Hd (GZ w g2 g4 g5 g6 g7)) (hg : g7 < g) (i : Nat) (v : Value) : GB w (wr.setCell ⟨g, i, none⟩ v) g2 g4 g5 g6 g7 key r h c := by
  obtain ⟨a, b, c', d, e⟩ := z.out
  exact ⟨H.hl, H.k.setOther (by simp; omega) _, H.o.setOther (by simp; omega) _, H.r.setOther (by simp; omega) _, H.h.setOther (by simp; omega) _, H.c.setOther (by simp; omega) _, H.bel.setCell (by simp; omega) _⟩
theorem GB.below {w wr wx : World} {g2 g4 g5 g6 g7 : Nat} {key r h c : List Int} (H : GB w wr g2 g4 g5 g6 g7 key r h c) (hb : Below wr.heap.size wr wx) : GB w wx g2 g4 g5 g6 g7 key r h c :=
  ⟨H.hl, H.k.belowAll hb, H.o.belowAll hb, H.r.belowAll hb, H.h.belowAll hb, H.c.belowAll hb, below_then H.bel H.bel.size hb⟩
theorem GB.drew {w wr : World} {g2 g4 g5 g6 g7 : Nat} {key r h c : List Int} (H : GB w wr g2 g4 g5 g6 g7 key r h c) : GB w wr.drew g2 g4 g5 g6 g7 key r h c :=
  ⟨H.hl, H.k.drew, H.o.drew, H.r.drew, H.h.drew, H.c.drew, below_drewN H.bel 1⟩
set_option maxHeartbeats 16000000 in
set_option maxRecDepth 100000 in
theorem tag1_calls (key bs : List Int) (A : Option Addr) (m cap : Nat) (w : World) (hk : key.length = 32) (rk : bytesOk key) (hm : m = bs.length) (hr : Rd w A .u8 bs) (rb : bytesOk bs) (hl : bs.length ≤ 1000000) :
    Calls Tryd.prog 90 #[.agg (ints .u8 key).toArray, .slice A m cap] w fun e w' => e = .returned (.agg (ints .u8 (tagT key bs)).toArray) ∧ Below w.heap.size w w' := by
  have HK := hid hk
  have HR := hid hr
  have HM := hid hm
  have HTAG : Hd (outT (plus1 (finT (hTo (clampB (clampA (putTo (rd key) 16) 4) 3) bs ((m + 15) / 16))) (putTo (fun j => rd key (16 + j)) 16)) 16 = tagT key bs) := hid (by rw [putTo_key key hk, hm]; rfl)
  have HCA : Hd (bytesOk (putTo (rd key) 16)) := hid (by
    intro i
    rw [rd_putTo _ _ _ (by omega)]
    split
    · exact rk i
    · omega)
  have hmb : m ≤ 1000000 := by omega
  clear hk hr hm hl
  go_enter Tryd.func90, Tryd.ntmps90
  go_wp2_with (first
    | (refine box_blk rfl 27 _ rfl _ rfl (ints .u8 key) rfl ?_; intro g2 w1 hg2 hb2 hB1 hs1)
    | (refine alloc_blk rfl 125 rfl _ rfl (ints .u8 (List.replicate 16 0)) zeroT16 ?_; intro g4 w2 hg4 hb4 hB2 hs2)
    | (have hx := hb6; refine alloc_blk rfl 156 rfl _ rfl (ints .u32 (List.replicate 17 0)) zeroA17w ?_; clear hx; intro g7 w5 hg7 hb7 hB5 hs5)
    | (have hx := hb5; refine alloc_blk rfl 156 rfl _ rfl (ints .u32 (List.replicate 17 0)) zeroA17w ?_; clear hx; intro g6 w4 hg6 hb6 hB4 hs4)
    | (refine alloc_blk rfl 156 rfl _ rfl (ints .u32 (List.replicate 17 0)) zeroA17w ?_; intro g5 w3 hg5 hb5 hB3 hs3)
    | fail)
  have hz : Hd (GZ w g2 g4 g5 g6 g7) := hid ⟨by omega, by omega, by omega, by omega, by omega⟩
  have hX : GB w w5 g2 g4 g5 g6 g7 key (putTo (rd key) 0) (List.replicate 17 0) (List.replicate 17 0) :=
    ⟨by simp, (((hb2.belowAll hB2).belowAll hB3).belowAll hB4).belowAll hB5, ((hb4.belowAll hB3).belowAll hB4).belowAll hB5, (hb5.belowAll hB4).belowAll hB5, hb6.belowAll hB5, hb7,
      below_then (below_then (below_then (below_then hB1 hB1.size hB2) (by omega) hB3) (by omega) hB4) (by omega) hB5⟩
  clear hg2 hb2 hB1 hs1 hg4 hb4 hB2 hs2 hg5 hb5 hB3 hs3 hg6 hb6 hB4 hs4 hg7 hb7 hB5 hs5
  go_loopg [8] 17 (fun kq v8 wr => ∃ i : Nat, i ≤ 16 ∧ v8 = .int .i64 i ∧ Hd (kq + i = 17) ∧ GB w wr g2 g4 g5 g6 g7 key (putTo (rd key) i) (List.replicate 17 0) (List.replicate 17 0))
  case atStart => exact ⟨0, by omega, rfl, hid (by omega), hX⟩
  case round =>
    clear hX
    obtain ⟨i, hi, rfl, hq, hX⟩ := hrel
    by_cases hlt : i < 16
    · have cr := hX.r.cellI i (by rw [putTo_length]; omega)
      have fr := hX.r.frozen i
      have ck := hX.k.cellI i (by have := HK.out; omega)
      have a1 : (i : Int) < 17 := by omega
      have a2 : (i : Int) < 32 := by omega
      have kb := rk i
      have hE : Hd (putTo (rd key) (i + 1) = (putTo (rd key) i).set i (rd key i)) := hid (putTo_succ _ _)
      generalize rd key i = K at ck kb hE
      go_wp2_with fail
      go_roundg (gk - 1)
      case measure => have := hq.out; omega
      case rel => exact ⟨i + 1, by omega, by go_num, hid (by have := hq.out; omega), by rw [hE.out]; exact hX.setR hz i K⟩
    · obtain rfl : i = 16 := by omega
      clear hq hi hlt
      have hRl : Hd ((putTo (rd key) 16).length = 17) := hid (putTo_length _ _)
      generalize putTo (rd key) 16 = R0 at hX HTAG HCA hRl
      go_wp2_with fail
      obtain ⟨wo, rfl⟩ : ∃ wo : World, wo = wr := ⟨_, rfl⟩
      go_loopg [9] 5 (fun kq v9 wr => ∃ i : Nat, i ≤ 4 ∧ v9 = .int .i64 (4 * (i : Int) + 3) ∧ Hd (kq + i = 5) ∧ GB w wr g2 g4 g5 g6 g7 key (clampA R0 i) (List.replicate 17 0) (List.replicate 17 0))
      case atStart => exact ⟨0, by omega, by go_num, hid (by omega), hX⟩
      case round =>
        clear hX
        obtain ⟨i, hi, rfl, hq, hX⟩ := hrel
        have hcl : Hd ((clampA R0 i).length = 17) := hid (by rw [clampA_length]; exact hRl.out)
        by_cases hlt : i < 4
        · obtain ⟨p, hp, hp17⟩ : ∃ p : Nat, Hd (p = 4 * i + 3) ∧ p < 17 := ⟨_, hid rfl, by omega⟩
          have e1 : 4 * (i : Int) + 3 = (p : Int) := by have := hp.out; omega
          have a0 : 4 * (i : Int) + 3 < 16 := by omega
          rw [e1] at a0 ⊢
          have cr := hX.r.cellI p (by have := hcl.out; omega)
          have fr := hX.r.frozen p
          have kb := clampA_in R0 HCA.out i p
          have hE : Hd (clampA R0 (i + 1) = (clampA R0 i).set p (bits .and .u8 (rd (clampA R0 i) p) 15)) := hid (by rw [clampA_succ, hp.out])
          have a1 : (p : Int) < 17 := by omega
          have hand := hid (and_u32_u8 (rd (clampA R0 i) p) 15 kb (by decide))
          generalize rd (clampA R0 i) p = K at cr kb hE hand
          go_wp2_with fail
          go_roundg (gk - 1)
          case measure => have := hq.out; omega
          case rel =>
            refine ⟨i + 1, by omega, by have := hp.out; go_num, hid (by have := hq.out; omega), ?_⟩
            have h2 := hX.setR hz p (bits .and .u32 K 15)
            rw [show (bits .and .u32 K 15) = bits .and .u8 K 15 from hand.out, ← hE.out] at h2
            rw [show (bits .and .u32 K 15) = bits .and .u8 K 15 from hand.out]
            exact h2
        · obtain rfl : i = 4 := by omega
          clear hq hi hlt
          have HCB : Hd (bytesOk (clampA R0 4)) := hid (clampA_in R0 HCA.out 4)
          generalize clampA R0 4 = R1 at hX HTAG HCB hcl
          have a0 : ¬ (4 * ((4 : Nat) : Int) + 3 < 16) := by omega
          go_wp2_with fail
          obtain ⟨wo1, rfl⟩ : ∃ wo : World, wo = wr := ⟨_, rfl⟩
          go_loopg [10] 4 (fun kq v10 wr => ∃ i : Nat, i ≤ 3 ∧ v10 = .int .i64 (4 * (i : Int) + 4) ∧ Hd (kq + i = 4) ∧ GB w wr g2 g4 g5 g6 g7 key (clampB R1 i) (List.replicate 17 0) (List.replicate 17 0))
          case atStart => exact ⟨0, by omega, by go_num, hid (by omega), hX⟩
          case round =>
            clear hX
            obtain ⟨i, hi, rfl, hq, hX⟩ := hrel
            have hcm : Hd ((clampB R1 i).length = 17) := hid (by rw [clampB_length]; exact hcl.out)
            by_cases hlt : i < 3
            · obtain ⟨p, hp, hp17⟩ : ∃ p : Nat, Hd (p = 4 * i + 4) ∧ p < 17 := ⟨_, hid rfl, by omega⟩
              have e1 : 4 * (i : Int) + 4 = (p : Int) := by have := hp.out; omega
              have a0 : 4 * (i : Int) + 4 < 16 := by omega
              rw [e1] at a0 ⊢
              have cr := hX.r.cellI p (by have := hcm.out; omega)
              have fr := hX.r.frozen p
              have kb := clampB_in R1 HCB.out i p
              have hE : Hd (clampB R1 (i + 1) = (clampB R1 i).set p (bits .and .u8 (rd (clampB R1 i) p) 252)) := hid (by rw [clampB_succ, hp.out])
              have a1 : (p : Int) < 17 := by omega
              have hand := hid (and_u32_u8 (rd (clampB R1 i) p) 252 kb (by decide))
              generalize rd (clampB R1 i) p = K at cr kb hE hand
              go_wp2_with fail
              go_roundg (gk - 1)
              case measure => have := hq.out; omega
              case rel =>
                refine ⟨i + 1, by omega, by have := hp.out; go_num, hid (by have := hq.out; omega), ?_⟩
                have h2 := hX.setR hz p (bits .and .u32 K 252)
                rw [show (bits .and .u32 K 252) = bits .and .u8 K 252 from hand.out, ← hE.out] at h2
                rw [show (bits .and .u32 K 252) = bits .and .u8 K 252 from hand.out]
                exact h2
            · obtain rfl : i = 3 := by omega
              clear hq hi hlt
              generalize clampB R1 3 = r at hX HTAG hcm
              have a0 : ¬ (4 * ((3 : Nat) : Int) + 4 < 16) := by omega
              go_wp2_with fail
              obtain ⟨wo2, rfl⟩ : ∃ wo : World, wo = wr := ⟨_, rfl⟩
              go_loopg [11, 12, 13] (m + 1) (fun kq v11 v12 v13 wr => ∃ n : Nat, n ≤ (m + 15) / 16 ∧ v11 = .int .i64 (16 * (n : Int)) ∧ Hd (kq + n = m + 1) ∧ ∃ c : List Int, Hd (c.length = 17) ∧ GB w wr g2 g4 g5 g6 g7 key r (hTo r bs n) c)
              case atStart => exact ⟨0, by omega, by go_num, hid (by omega), _, hid (by simp), hX⟩
              case round =>
                clear hX
                obtain ⟨n, hn, rfl, hq, c, hcl2, hX⟩ := hrel
                by_cases hlt : 16 * n < m
                · have a0 : 16 * (n : Int) < m := by omega
                  obtain ⟨k, hk⟩ : ∃ k : Nat, Hd (k = min (m - 16 * n) 16) := ⟨_, hid rfl⟩
                  have hkb : Hd (1 ≤ k ∧ k ≤ 16 ∧ 16 * n + k ≤ m) := hid (by have := hk.out; omega)
                  have hmin : (if (m : Int) - 16 * (n : Int) < 16 then (m : Int) - 16 * (n : Int) else 16) = (k : Int) := by have := hk.out; split <;> omega
                  have a1 : IntKind.i64.wrap ((m : Int) - 16 * (n : Int)) = (m : Int) - 16 * (n : Int) := IntWalk.i64_in _ (by omega)
                  obtain ⟨ys, hys⟩ : ∃ ys, Hd (ys = bs.drop (16 * n)) := ⟨_, hid rfl⟩
                  have hyl : Hd (k = min ys.length 16) := hid (by rw [hk.out, hys.out, List.length_drop, HM.out])
                  have hBO : Hd ((putTo (rd ys) k).set k 1 = blockOf ys) := hid (by rw [hyl.out]; exact putTo_block ys)
                  have hHN : Hd (timesT (plus1 (hTo r bs n) (blockOf ys)) r = hTo r bs (n + 1)) := hid (by rw [hys.out]; rfl)
                  have hhl := hid hX.hl
                  generalize hTo r bs n = h at hX hHN hhl
                  go_wp2_with (first
                    | (refine build_to rfl 156 _ rfl (ints .u32 (List.replicate 17 0)).toArray (by kernel_rfl) ?_)
                    | (refine store_blk rfl 156 _ _ rfl g7 (ints .u32 (List.replicate 17 0)) rfl rfl 156 _ hX.c 17 info88 (by simp) (by simpa using hcl2.out) (ints_one _ _) ?_)
                    | fail)
                  replace hX := hX.rowC hz (putTo (rd ys) 0)
                  obtain ⟨wo3, rfl⟩ : ∃ wo : World, wo = wr := ⟨_, rfl⟩
                  change GB w (wo3.setRow g7 (ints .u32 (List.replicate 17 0)).toArray) g2 g4 g5 g6 g7 key r h (putTo (rd ys) 0) at hX
                  change Code.wp _ _ _ _ (wo3.setRow g7 (ints .u32 (List.replicate 17 0)).toArray)
                  generalize wo3.setRow g7 (ints .u32 (List.replicate 17 0)).toArray = wn at hX ⊢
                  clear hmin a1
                  have hd0 : decide (16 * (n : Int) < m) = true := by simp; omega
                  obtain ⟨gk1, hgk⟩ : ∃ g : Nat, Hd (g = gk) := ⟨gk, hid rfl⟩
                  have hq1 : Hd (gk1 + n = m + 1) := hid (by rw [hgk.out]; exact hq.out)
                  go_loopg [13] (k + 1) (fun kq v13 wr => ∃ j : Nat, j ≤ k ∧ v13 = .int .i64 j ∧ Hd (kq + j = k + 1) ∧ GB w wr g2 g4 g5 g6 g7 key r h (putTo (rd ys) j))
                  case atStart => exact ⟨0, by omega, rfl, hid (by omega), hX⟩
                  case round =>
                    clear hX
                    obtain ⟨j, hj, rfl, hqj, hX⟩ := hrel
                    have hcl3 : Hd ((putTo (rd ys) j).length = 17) := hid (putTo_length _ _)
                    by_cases hjlt : j < k
                    · obtain ⟨g, o, rfl⟩ := HR.out.at (by have := hkb.out; rw [← HM.out]; omega)
                      have a1 : (j : Int) < k := by omega
                      have a2 : (j : Int) < 17 := by have := hkb.out; omega
                      obtain ⟨q, hqq⟩ : ∃ q : Nat, Hd (q = 16 * n + j) := ⟨_, hid rfl⟩
                      have a3 : 16 * (n : Int) + j = (q : Int) := by have := hqq.out; omega
                      have a4 : (q : Int) < m := by have := hqq.out; have := hkb.out; omega
                      have a5 : IntKind.i64.wrap (q : Int) = (q : Int) := IntWalk.i64_in _ (by omega)
                      have cb := (HR.out.below hX.bel).cellAt q (by rw [← HM.out]; omega)
                      have cr := hX.c.cellI j (by have := hcl3.out; omega)
                      have fr := hX.c.frozen j
                      have kb := rb q
                      have hE : Hd (putTo (rd ys) (j + 1) = (putTo (rd ys) j).set j (rd bs q)) := hid (by rw [putTo_succ, hys.out, rd_drop, hqq.out])
                      generalize rd bs q = K at cb kb hE
                      go_wp2_with fail
                      go_roundg (gk - 1)
                      case measure => have := hqj.out; omega
                      case rel => exact ⟨j + 1, by omega, by go_num, hid (by have := hqj.out; omega), by rw [hE.out]; exact hX.setC hz j K⟩
                    · obtain rfl : j = k := by omega
                      clear hqj hj hjlt
                      have a1 : ¬ ((j : Int) < j) := by omega
                      have a2 : (j : Int) < 17 := by have := hkb.out; omega
                      have cr := hX.c.cellI j (by have := hcl3.out; have := hkb.out; omega)
                      have fr := hX.c.frozen j
                      go_wp2_with fail
                      replace hX := hX.setC hz j 1
                      rw [hBO.out] at hX
                      have hbl : Hd ((blockOf ys).length = 17) := hid (blockOf_length ys)
                      generalize blockOf ys = c2 at hX hHN hbl
                      have hPL : Hd ((plus1 h c2).length = 17) := hid (by rw [plus1_length]; exact hhl.out)
                      have hTL : Hd ((timesT (plus1 h c2) r).length = 17) := hid (timesT_length _ _)
                      refine wp_region_factsU (ix := [[0], [1], [2], [3], [4], [4]]) (S := fun w' => Blk w' g5 156 (ints .u32 r) ∧ Blk w' g7 156 (ints .u32 c2) ∧ (∃ hx, hx.length = 17 ∧ Blk w' g6 156 (ints .u32 hx)) ∧ ∃ hx, GB w w' g2 g4 g5 g6 g7 key r hx c2)
                        (R := fun iO w1 w2 => if iO = 5 then ∃ cs, w2 = w1.setRow g6 cs else (Below w1.heap.size w1 w2))
                        (U := fun iO w1 => match iO with
                          | 0 => Blk w1 g6 156 (ints .u32 h)
                          | _ => True)
                        (kill := fun jO => match jO with
                          | _ => none)
                        (p := fun jO vs w' => match jO with
                          | 0 => vs 0 = .agg (ints .u32 h).toArray
                          | 1 => vs 1 = .agg (ints .u32 c2).toArray
                          | 2 => vs 2 = .agg (ints .u32 (plus1 h c2)).toArray
                          | 3 => vs 3 = .agg (ints .u32 r).toArray
                          | 4 => vs 4 = .agg (ints .u32 (timesT (plus1 h c2) r)).toArray
                          | 5 => Blk w' g6 156 (ints .u32 (timesT (plus1 h c2) r))
                          | _ => True)
                        (ks := [])
                        (hm := by kernel_rfl) (hc := by kernel_rfl) ?_ ?_ ?_ ?_ ?_ ?_
                      · exact ⟨hX.r.drew, hX.c.drew, ⟨h, hX.hl, hX.h.drew⟩, h, hX.drew⟩
                      · intro iO jO vs w1 w2 hij hw hkl hR h
                        have hB : iO ≠ 5 → Below w1.heap.size w1 w2 := fun h5 => by rw [if_neg h5] at hR; exact hR
                        match jO with
                        | 0 | 1 | 2 | 3 | 4 => exact h
                        | 5 => exact Blk.belowAll h (hB (by rintro rfl; exact hij rfl))
                        | nO + 6 => trivial
                      · intro jO
                        match jO with
                        | 0 => exact hX.h.drew
                        | 1 | 2 | 3 | 4 | 5 | nO + 6 => trivial
                      · intro iO jO w1 w2 hij hw hR h
                        have hB : iO ≠ 5 → Below w1.heap.size w1 w2 := fun h5 => by rw [if_neg h5] at hR; exact hR
                        match jO with
                        | 0 => exact Blk.belowAll h (hB (by rintro rfl; exact absurd (Eq.trans (by kernel_rfl : true = _) hw) (by decide)))
                        | 1 | 2 | 3 | 4 | 5 | nO + 6 => trivial
                      · refine ⟨?_, ?_, ?_, ?_, ?_, ?_, trivial⟩
                        · (intro vs w2 hS hU hd; simp [Region.binds, Fact.at] at hd; simp only [fill, List.take_succ_cons, List.take_zero, Act.put, List.setIfInBounds_toArray, List.set_cons_zero, List.set_cons_succ, Nat.reduceAdd])
                          have hU' : Blk w2 g6 156 (ints .u32 h) := hU
                          go_wp2_with (first
                            | (refine load_blk rfl 156 _ rfl g6 rfl 156 _ hU' 17 29 arr88 (by simpa using hhl.out) info88 ?_)
                            | fail)
                          exact ⟨rfl, rfl, hS, Below.refl _ _⟩
                        · (intro vs w2 hS hU hd; simp [Region.binds, Fact.at] at hd; simp only [fill, List.take_succ_cons, List.take_zero, Act.put, List.setIfInBounds_toArray, List.set_cons_zero, List.set_cons_succ, Nat.reduceAdd])
                          try simp only [hd]
                          go_wp2_with (first
                            | (refine load_blk rfl 156 _ rfl g7 rfl 156 _ hS.2.1 17 29 arr88 (by simpa using hbl.out) info88 ?_)
                            | fail)
                          exact ⟨rfl, rfl, hS, Below.refl _ _⟩
                        · (intro vs w2 hS hU hd; simp [Region.binds, Fact.at] at hd; simp only [fill, List.take_succ_cons, List.take_zero, Act.put, List.setIfInBounds_toArray, List.set_cons_zero, List.set_cons_succ, Nat.reduceAdd])
                          try simp only [hd]
                          go_wp2_with (first
                            | (go_at_call 105; refine (plus1_calls h c2 _ hhl.out hbl.out).mono ?_; rintro e w3 ⟨rfl, hB9⟩)
                            | fail)
                          obtain ⟨h5, h7, ⟨hx, hxl, h6⟩, hy, hg⟩ := hS
                          exact ⟨rfl, rfl, ⟨h5.belowAll hB9, h7.belowAll hB9, ⟨hx, hxl, h6.belowAll hB9⟩, hy, hg.below hB9⟩, hB9⟩
                        · (intro vs w2 hS hU hd; simp [Region.binds, Fact.at] at hd; simp only [fill, List.take_succ_cons, List.take_zero, Act.put, List.setIfInBounds_toArray, List.set_cons_zero, List.set_cons_succ, Nat.reduceAdd])
                          try simp only [hd]
                          go_wp2_with (first
                            | (refine load_blk rfl 156 _ rfl g5 rfl 156 _ hS.1 17 29 arr88 (by simpa using hcm.out) info88 ?_)
                            | fail)
                          exact ⟨rfl, rfl, hS, Below.refl _ _⟩
                        · (intro vs w2 hS hU hd; simp [Region.binds, Fact.at] at hd; simp only [fill, List.take_succ_cons, List.take_zero, Act.put, List.setIfInBounds_toArray, List.set_cons_zero, List.set_cons_succ, Nat.reduceAdd])
                          try simp only [hd]
                          go_wp2_with (first
                            | (go_at_call 104; refine (times1_calls (plus1 h c2) r _ hPL.out hcm.out).mono ?_; rintro e w3 ⟨rfl, hB9⟩)
                            | fail)
                          obtain ⟨h5, h7, ⟨hx, hxl, h6⟩, hy, hg⟩ := hS
                          exact ⟨rfl, rfl, ⟨h5.belowAll hB9, h7.belowAll hB9, ⟨hx, hxl, h6.belowAll hB9⟩, hy, hg.below hB9⟩, hB9⟩
                        · (intro vs w2 hS hU hd; simp [Region.binds, Fact.at] at hd; simp only [fill, List.take_succ_cons, List.take_zero, Act.put, List.setIfInBounds_toArray, List.set_cons_zero, List.set_cons_succ, Nat.reduceAdd])
                          obtain ⟨h5, h7, ⟨hx, hxl, h6⟩, hy, hg⟩ := hS
                          simp only [hd]
                          go_wp2_with (first
                            | (refine store_blk rfl 156 _ _ rfl g6 (ints .u32 (timesT (plus1 h c2) r)) rfl rfl 156 _ h6 17 info88 (by simpa using hTL.out) (by simpa using hxl) (ints_one _ _) ?_)
                            | fail)
                          have hg2 := hg.rowH hz _ hTL.out
                          exact ⟨rfl, h6.setRow _, ⟨hg2.r, hg2.c, ⟨_, hTL.out, hg2.h⟩, _, hg2⟩, ⟨_, rfl⟩⟩
                      · intro vs wq hf hS
                        have h5 : Blk wq g6 156 (ints .u32 (timesT (plus1 h c2) r)) := hf 5 (by simp) rfl
                        obtain ⟨_, _, _, hy, hg⟩ := hS
                        have hX9 : GB w wq g2 g4 g5 g6 g7 key r (hTo r bs (n + 1)) c2 := by
                          rw [← hHN.out]
                          exact ⟨hTL.out, hg.k, hg.o, hg.r, h5, hg.c, hg.bel⟩
                        simp only [fill, Act.put, List.setIfInBounds_toArray, List.set_cons_zero, List.set_cons_succ, Nat.reduceAdd]
                        clear hf
                        go_wp2_with fail
                        go_roundg (gk1 - 1)
                        case measure => have := hq1.out; have := hgk.out; omega
                        case rel => exact ⟨n + 1, by omega, by go_num, hid (by have := hq1.out; have := hgk.out; omega), c2, hbl, hX9⟩
                · obtain rfl : n = (m + 15) / 16 := by omega
                  have a0 : ¬ (16 * (((m + 15) / 16 : Nat) : Int) < m) := by omega
                  clear hq hn hlt
                  generalize (m + 15) / 16 = n at hX HTAG a0
                  have hhl := hid hX.hl
                  generalize hTo r bs n = h at hX HTAG hhl
                  have hcl5 := hid hX.c.lt
                  go_wp2_with (first
                    | (refine load_blk rfl 156 (.tmp 14) rfl g14 rfl 156 _ hb14z 17 29 arr88 (by simpa using hhl.out) info88 ?_)
                    | (have hx := hB28; refine load_blk rfl 156 _ rfl g6 rfl 156 _ hX.h 17 29 arr88 (by simpa using hhl.out) info88 ?_; clear hx)
                    | (refine load_blk rfl 156 (.tmp 15) rfl g15 rfl 156 _ hb15y 17 29 arr88 (by rfl) info88 ?_)
                    | (have hx := hb14y; refine load_blk rfl 156 (.tmp 6) rfl g6 rfl 156 _ hX.h 17 29 arr88 (by simpa using hhl.out) info88 ?_; clear hx)
                    | (refine load_blk rfl 156 (.tmp 6) rfl g6 rfl 156 _ hX.h 17 29 arr88 (by simpa using hhl.out) info88 ?_)
                    | (have hx := hb14y; refine alloc_blk rfl 156 rfl _ rfl (ints .u32 (List.replicate 17 0)) zeroA17w ?_; clear hx; intro g15 w7 hg15 hb15 hB15 hs15
                       have hz15a : Hd (g14 < g15) := hid (by have := hb14y.lt; omega)
                       replace hX := hX.below hB15
                       replace hb14y := hb14y.belowAll hB15)
                    | (refine alloc_blk rfl 156 rfl _ rfl (ints .u32 (List.replicate 17 0)) zeroA17w ?_; intro g14 w6 hg14 hb14 hB14 hs14
                       replace hX := hX.below hB14)
                    | (refine build_to rfl 156 _ rfl (ints .u32 minusA).toArray (by kernel_rfl) ?_)
                    | (refine store_blk rfl 156 (.tmp 14) _ rfl g14 (ints .u32 h) rfl rfl 156 _ hb14 17 info88 (by simpa using hhl.out) (by simp) (ints_one _ _) ?_
                       have hz14 : Hd (g7 < g14) := hid (by have := hcl5.out; omega)
                       replace hX := hX.other hz hz14.out (ints .u32 h).toArray
                       have hb14y := hb14.setRow (ints .u32 h)
                       clear hb14 hB14 hs14 hg14
                       generalize w6.setRow g14 (ints .u32 h).toArray = w6' at *)
                    | (refine store_blk rfl 156 (.tmp 15) _ rfl g15 (ints .u32 minusA) rfl rfl 156 _ hb15 17 info88 (by rfl) (by simp) (ints_one _ _) ?_
                       have hz15 : Hd (g7 < g15 ∧ g14 < g15) := hid (by have := hz15a.out; have := hz14.out; omega)
                       replace hX := (hX.other hz hz15.out.1 (ints .u32 minusA).toArray).otherC hz hz15.out.1 16 (.int .u32 252)
                       replace hb14y := (hb14y.setRowOther (g' := g15) (by have := hz15.out; omega) (ints .u32 minusA).toArray).setOther (a := ⟨g15, 16, none⟩) (by have := hz15.out; simp; omega) (.int .u32 252)
                       have hb15x := hb15.setRow (ints .u32 minusA)
                       have c16 := hb15x.cellI 16 (by decide)
                       have f16 := hb15x.frozen 16
                       clear hb15 hB15 hs15 hg15
                       have hb15y := hb15x.setI 16 252)
                    | fail)
                  rw [minusA_set] at hb15y
                  rw [show minusA.set 16 252 = minusP from minusA_set]
                  clear c16 f16 hb15x hz15a
                  generalize (w7.setRow g15 (ints .u32 minusA).toArray).setCell ⟨g15, 16, none⟩ (.int .u32 252) = w8 at *
                  refine (plus1_calls h minusP _ hhl.out rfl).mono ?_
                  rintro e w9 ⟨rfl, hB28⟩
                  replace hX := hX.below hB28
                  replace hb14y := hb14y.belowAll hB28
                  have hPL : Hd ((plus1 h minusP).length = 17) := hid (by rw [plus1_length]; exact hhl.out)
                  have hF1 : rd (plus1 h minusP) 16 / 128 = 0 → Hd (finT h = plus1 h minusP) := fun h0 => hid (by rw [finT, if_pos h0])
                  have hF2 : ¬ rd (plus1 h minusP) 16 / 128 = 0 → Hd (finT h = h) := fun h0 => hid (by rw [finT, if_neg h0])
                  clear hb15y hB28 hz15
                  generalize plus1 h minusP = P at hPL hF1 hF2 ⊢
                  generalize finT h = F at hF1 hF2 HTAG
                  have hX6 := hX.rowH hz P hPL.out
                  have c16 := hX6.h.cellI 16 (by have := hPL.out; omega)
                  replace hb14y := hb14y.setRowOther (g' := g6) (by have := hz14.out; have := hz.out.e; omega) (ints .u32 P).toArray
                  by_cases hp0 : rd P 16 / 128 = 0
                  · have hF := hF1 hp0
                    clear hF1 hF2
                    go_wp2_with (first
                      | (have hx := hX7; refine store_blk rfl 156 (.tmp 7) _ rfl g7 (ints .u32 (List.replicate 17 0)) rfl rfl 156 _ hX7.c 17 info88 (by simp) (by simpa using hcl2.out) (ints_one _ _) ?_; clear hx)
                      | (refine store_blk rfl 156 (.tmp 6) _ rfl g6 (ints .u32 P) rfl rfl 156 _ hX.h 17 info88 (by simpa using hPL.out) (by simpa using hhl.out) (ints_one _ _) ?_
                         have hX7 := hX6
                         generalize w9.setRow g6 (ints .u32 P).toArray = wk at *)
                      | (refine build_to rfl 156 _ rfl (ints .u32 (List.replicate 17 0)).toArray (by kernel_rfl) ?_)
                      | fail)
                    replace hX := hX7.rowC hz (putTo (fun j => rd key (16 + j)) 0)
                    change GB w (wk.setRow g7 (ints .u32 (List.replicate 17 0)).toArray) g2 g4 g5 g6 g7 key r P (putTo (fun j => rd key (16 + j)) 0) at hX
                    change Code.wp _ _ _ _ (wk.setRow g7 (ints .u32 (List.replicate 17 0)).toArray)
                    rw [hF.out] at HTAG
                    have hLL := hid hX.hl
                    clear hX7 hX6 hb14y c16 hp0 hF
                    generalize wk.setRow g7 (ints .u32 (List.replicate 17 0)).toArray = wn at hX ⊢
                    go_loopg [16] 17 (fun kq v16 wr => ∃ j : Nat, j ≤ 16 ∧ v16 = .int .i64 j ∧ Hd (kq + j = 17) ∧ GB w wr g2 g4 g5 g6 g7 key r P (putTo (fun j => rd key (16 + j)) j))
                    case atStart => exact ⟨0, by omega, rfl, hid (by omega), hX⟩
                    case round =>
                      clear hX
                      obtain ⟨j, hj, rfl, hqj, hX⟩ := hrel
                      have hcl3 : Hd ((putTo (fun j => rd key (16 + j)) j).length = 17) := hid (putTo_length _ _)
                      by_cases hjlt : j < 16
                      · have a1 : (j : Int) < 17 := by omega
                        have a2 : 16 + (j : Int) < 32 := by omega
                        obtain ⟨q, hqq⟩ : ∃ q : Nat, Hd (q = 16 + j) := ⟨_, hid rfl⟩
                        have a3 : 16 + (j : Int) = (q : Int) := by have := hqq.out; omega
                        have a4 : (q : Int) < 32 := by have := hqq.out; omega
                        have a5 : IntKind.i64.wrap (q : Int) = (q : Int) := IntWalk.i64_in _ (by omega)
                        have ck := hX.k.cellI q (by have := HK.out; omega)
                        have cr := hX.c.cellI j (by have := hcl3.out; omega)
                        have fr := hX.c.frozen j
                        have kb := rk q
                        have hE : Hd (putTo (fun j => rd key (16 + j)) (j + 1) = (putTo (fun j => rd key (16 + j)) j).set j (rd key q)) := hid (by rw [putTo_succ, hqq.out])
                        generalize rd key q = K at ck kb hE
                        go_wp2_with fail
                        go_roundg (gk - 1)
                        case measure => have := hqj.out; omega
                        case rel => exact ⟨j + 1, by omega, by go_num, hid (by have := hqj.out; omega), by rw [hE.out]; exact hX.setC hz j K⟩
                      · obtain rfl : j = 16 := by omega
                        clear hqj hj hjlt
                        generalize putTo (fun j => rd key (16 + j)) 16 = c3 at hX HTAG hcl3
                        have hPL2 : Hd ((plus1 P c3).length = 17) := hid (by rw [plus1_length]; exact hLL.out)
                        go_wp2_with (first
                          | (refine load_blk rfl 156 (.tmp 6) rfl g6 rfl 156 _ hX.h 17 29 arr88 (by simpa using hLL.out) info88 ?_)
                          | (refine load_blk rfl 156 (.tmp 7) rfl g7 rfl 156 _ hX.c 17 29 arr88 (by simpa using hcl3.out) info88 ?_)
                          | (go_at_call 105; refine (plus1_calls P c3 _ hLL.out hcl3.out).mono ?_; rintro e w10 ⟨rfl, hB29⟩
                             replace hX := hX.below hB29
                             generalize plus1 P c3 = H at *)
                          | (refine store_blk rfl 156 (.tmp 6) _ rfl g6 (ints .u32 H) rfl rfl 156 _ hX.h 17 info88 (by simpa using hPL2.out) (by simpa using hLL.out) (ints_one _ _) ?_
                             replace hX := hX.rowH hz H hPL2.out
                             clear hB29
                             generalize w10.setRow g6 (ints .u32 H).toArray = w11 at *)
                          | (refine alloc_blk rfl 125 rfl _ rfl (ints .u8 (List.replicate 16 0)) zeroT16 ?_; intro g17 w12 hg17 hb17 hB17 hs17)
                          | fail)
                        have hz17 : Hd (g7 < g17) := hid (by have := hX.c.lt; omega)
                        replace hX := hX.below hB17
                        clear hg17 hB17 hs17
                        go_loopg [18] 17 (fun kq v18 wr => ∃ j : Nat, j ≤ 16 ∧ v18 = .int .i64 j ∧ Hd (kq + j = 17) ∧ GB w wr g2 g4 g5 g6 g7 key r H c3 ∧ Blk wr g17 125 (ints .u8 (outT H j)))
                        case atStart => exact ⟨0, by omega, rfl, hid (by omega), hX, hb17⟩
                        case round =>
                          clear hX hb17
                          obtain ⟨j, hj, rfl, hqj, hX, hb17⟩ := hrel
                          have hcl6 : Hd ((outT H j).length = 16) := hid (outT_length _ _)
                          by_cases hjlt : j < 16
                          · have a1 : (j : Int) < 17 := by omega
                            have a2 : (j : Int) < 16 := by omega
                            have ch := hX.h.cellI j (by have := hPL2.out; omega)
                            have cr := hb17.cellI j (by have := hcl6.out; omega)
                            have fr := hb17.frozen j
                            have hE : Hd (outT H (j + 1) = (outT H j).set j (rd H j % 256)) := hid (outT_succ _ _)
                            generalize rd H j = K at ch hE
                            go_wp2_with fail
                            go_roundg (gk - 1)
                            case measure => have := hqj.out; omega
                            case rel => exact ⟨j + 1, by omega, by go_num, hid (by have := hqj.out; omega), hX.otherC hz hz17.out j _, by rw [hE.out]; exact hb17.setI j _⟩
                          · obtain rfl : j = 16 := by omega
                            clear hqj hj hjlt
                            rw [HTAG.out] at hb17 hcl6
                            obtain ⟨TT, hTT⟩ : ∃ TT, Hd (tagT key bs = TT) := ⟨_, hid rfl⟩
                            rw [hTT.out] at hb17 hcl6
                            go_wp2_with (first
                              | (refine load_blk rfl 125 _ rfl g17 rfl 125 _ hb17 16 5 undT16 (by simpa using hcl6.out) infoT16 ?_)
                              | (refine store_blk rfl 125 _ _ rfl g4 (ints .u8 TT) rfl rfl 125 _ hX.o 16 infoT16 (by simpa using hcl6.out) (by simp) (ints_one _ _) ?_)
                              | fail)
                            refine bodyPost_ret (results_blk rfl _ _ g4 125 _ 16 5 rfl (hX.o.setRow _) undT16 (by simpa using hcl6.out) infoT16) rfl ?_
                            exact ⟨by rw [hTT.out], below_setRow hX.bel (by have h1 := hz.out.a; have h2 := hz.out.b; omega) _⟩
                  · have hF := hF2 hp0
                    clear hF1 hF2
                    go_wp2_with (first
                      | (have hx := hX7; refine store_blk rfl 156 (.tmp 7) _ rfl g7 (ints .u32 (List.replicate 17 0)) rfl rfl 156 _ hX7.c 17 info88 (by simp) (by simpa using hcl2.out) (ints_one _ _) ?_; clear hx)
                      | (have hx := hy6; refine store_blk rfl 156 (.tmp 6) _ rfl g6 (ints .u32 h) rfl rfl 156 _ hX6.h 17 info88 (by simpa using hhl.out) (by simpa using hPL.out) (ints_one _ _) ?_; clear hx
                         have hX7 := hX6.rowH hz h hhl.out
                         generalize (wj.setRow g6 (ints .u32 h).toArray) = wk at *)
                      | (refine load_blk rfl 156 (.tmp 14) rfl g14 rfl 156 _ hb14y 17 29 arr88 (by simpa using hhl.out) info88 ?_)
                      | (refine store_blk rfl 156 (.tmp 6) _ rfl g6 (ints .u32 P) rfl rfl 156 _ hX.h 17 info88 (by simpa using hPL.out) (by simpa using hhl.out) (ints_one _ _) ?_
                         have hy6 := hX6.h
                         generalize w9.setRow g6 (ints .u32 P).toArray = wj at *)
                      | (refine build_to rfl 156 _ rfl (ints .u32 (List.replicate 17 0)).toArray (by kernel_rfl) ?_)
                      | fail)
                    replace hX := hX7.rowC hz (putTo (fun j => rd key (16 + j)) 0)
                    change GB w (wk.setRow g7 (ints .u32 (List.replicate 17 0)).toArray) g2 g4 g5 g6 g7 key r h (putTo (fun j => rd key (16 + j)) 0) at hX
                    change Code.wp _ _ _ _ (wk.setRow g7 (ints .u32 (List.replicate 17 0)).toArray)
                    rw [hF.out] at HTAG
                    have hLL := hid hX.hl
                    clear hX7 hX6 hb14y c16 hp0 hF
                    generalize wk.setRow g7 (ints .u32 (List.replicate 17 0)).toArray = wn at hX ⊢
                    go_loopg [16] 17 (fun kq v16 wr => ∃ j : Nat, j ≤ 16 ∧ v16 = .int .i64 j ∧ Hd (kq + j = 17) ∧ GB w wr g2 g4 g5 g6 g7 key r h (putTo (fun j => rd key (16 + j)) j))
                    case atStart => exact ⟨0, by omega, rfl, hid (by omega), hX⟩
                    case round =>
                      clear hX
                      obtain ⟨j, hj, rfl, hqj, hX⟩ := hrel
                      have hcl3 : Hd ((putTo (fun j => rd key (16 + j)) j).length = 17) := hid (putTo_length _ _)
                      by_cases hjlt : j < 16
                      · have a1 : (j : Int) < 17 := by omega
                        have a2 : 16 + (j : Int) < 32 := by omega
                        obtain ⟨q, hqq⟩ : ∃ q : Nat, Hd (q = 16 + j) := ⟨_, hid rfl⟩
                        have a3 : 16 + (j : Int) = (q : Int) := by have := hqq.out; omega
                        have a4 : (q : Int) < 32 := by have := hqq.out; omega
                        have a5 : IntKind.i64.wrap (q : Int) = (q : Int) := IntWalk.i64_in _ (by omega)
                        have ck := hX.k.cellI q (by have := HK.out; omega)
                        have cr := hX.c.cellI j (by have := hcl3.out; omega)
                        have fr := hX.c.frozen j
                        have kb := rk q
                        have hE : Hd (putTo (fun j => rd key (16 + j)) (j + 1) = (putTo (fun j => rd key (16 + j)) j).set j (rd key q)) := hid (by rw [putTo_succ, hqq.out])
                        generalize rd key q = K at ck kb hE
                        go_wp2_with fail
                        go_roundg (gk - 1)
                        case measure => have := hqj.out; omega
                        case rel => exact ⟨j + 1, by omega, by go_num, hid (by have := hqj.out; omega), by rw [hE.out]; exact hX.setC hz j K⟩
                      · obtain rfl : j = 16 := by omega
                        clear hqj hj hjlt
                        generalize putTo (fun j => rd key (16 + j)) 16 = c3 at hX HTAG hcl3
                        have hPL2 : Hd ((plus1 h c3).length = 17) := hid (by rw [plus1_length]; exact hLL.out)
                        go_wp2_with (first
                          | (refine load_blk rfl 156 (.tmp 6) rfl g6 rfl 156 _ hX.h 17 29 arr88 (by simpa using hLL.out) info88 ?_)
                          | (refine load_blk rfl 156 (.tmp 7) rfl g7 rfl 156 _ hX.c 17 29 arr88 (by simpa using hcl3.out) info88 ?_)
                          | (go_at_call 105; refine (plus1_calls h c3 _ hLL.out hcl3.out).mono ?_; rintro e w10 ⟨rfl, hB29⟩
                             replace hX := hX.below hB29
                             generalize plus1 h c3 = H at *)
                          | (refine store_blk rfl 156 (.tmp 6) _ rfl g6 (ints .u32 H) rfl rfl 156 _ hX.h 17 info88 (by simpa using hPL2.out) (by simpa using hLL.out) (ints_one _ _) ?_
                             replace hX := hX.rowH hz H hPL2.out
                             clear hB29
                             generalize w10.setRow g6 (ints .u32 H).toArray = w11 at *)
                          | (refine alloc_blk rfl 125 rfl _ rfl (ints .u8 (List.replicate 16 0)) zeroT16 ?_; intro g17 w12 hg17 hb17 hB17 hs17)
                          | fail)
                        have hz17 : Hd (g7 < g17) := hid (by have := hX.c.lt; omega)
                        replace hX := hX.below hB17
                        clear hg17 hB17 hs17
                        go_loopg [18] 17 (fun kq v18 wr => ∃ j : Nat, j ≤ 16 ∧ v18 = .int .i64 j ∧ Hd (kq + j = 17) ∧ GB w wr g2 g4 g5 g6 g7 key r H c3 ∧ Blk wr g17 125 (ints .u8 (outT H j)))
                        case atStart => exact ⟨0, by omega, rfl, hid (by omega), hX, hb17⟩
                        case round =>
                          clear hX hb17
                          obtain ⟨j, hj, rfl, hqj, hX, hb17⟩ := hrel
                          have hcl6 : Hd ((outT H j).length = 16) := hid (outT_length _ _)
                          by_cases hjlt : j < 16
                          · have a1 : (j : Int) < 17 := by omega
                            have a2 : (j : Int) < 16 := by omega
                            have ch := hX.h.cellI j (by have := hPL2.out; omega)
                            have cr := hb17.cellI j (by have := hcl6.out; omega)
                            have fr := hb17.frozen j
                            have hE : Hd (outT H (j + 1) = (outT H j).set j (rd H j % 256)) := hid (outT_succ _ _)
                            generalize rd H j = K at ch hE
                            go_wp2_with fail
                            go_roundg (gk - 1)
                            case measure => have := hqj.out; omega
                            case rel => exact ⟨j + 1, by omega, by go_num, hid (by have := hqj.out; omega), hX.otherC hz hz17.out j _, by rw [hE.out]; exact hb17.setI j _⟩
                          · obtain rfl : j = 16 := by omega
                            clear hqj hj hjlt
                            rw [HTAG.out] at hb17 hcl6
                            obtain ⟨TT, hTT⟩ : ∃ TT, Hd (tagT key bs = TT) := ⟨_, hid rfl⟩
                            rw [hTT.out] at hb17 hcl6
                            go_wp2_with (first
                              | (refine load_blk rfl 125 _ rfl g17 rfl 125 _ hb17 16 5 undT16 (by simpa using hcl6.out) infoT16 ?_)
                              | (refine store_blk rfl 125 _ _ rfl g4 (ints .u8 TT) rfl rfl 125 _ hX.o 16 infoT16 (by simpa using hcl6.out) (by simp) (ints_one _ _) ?_)
                              | fail)
                            refine bodyPost_ret (results_blk rfl _ _ g4 125 _ 16 5 rfl (hX.o.setRow _) undT16 (by simpa using hcl6.out) infoT16) rfl ?_
                            exact ⟨by rw [hTT.out], below_setRow hX.bel (by have h1 := hz.out.a; have h2 := hz.out.b; omega) _⟩
end Go.Proofs.YtlikinglgegclaaDoor
/- The reference's tag is the program's. -/
namespace Go.Proofs.YtlikinglgegclaaDoor
open Go.RowKit Go.Cour
def sum1 (f : Nat → Int) : Nat → Int
  | 0 => 0
  | n + 1 => sum1 f n + f n
theorem sum1_congr {f g : Nat → Int} : ∀ n, (∀ i, i < n → f i = g i) → sum1 f n = sum1 g n
  | 0, _ => rfl
  | n + 1, h => by
    unfold sum1
    rw [sum1_congr n (fun i hi => h i (by omega)), h n (by omega)]
theorem sum1_add (f g : Nat → Int) : ∀ n, sum1 (fun i => f i + g i) n = sum1 f n + sum1 g n
  | 0 => rfl
  | n + 1 => by
    unfold sum1
    rw [sum1_add f g n]
    omega
theorem sum1_mul (c : Int) (f : Nat → Int) : ∀ n, sum1 (fun i => c * f i) n = c * sum1 f n
  | 0 => by simp [sum1]
  | n + 1 => by
    unfold sum1
    rw [sum1_mul c f n, Int.mul_add]
theorem sum1_split (f : Nat → Int) (a : Nat) : ∀ b, sum1 f (a + b) = sum1 f a + sum1 (fun k => f (a + k)) b
  | 0 => by simp [sum1]
  | b + 1 => by
    have e1 : sum1 f (a + (b + 1)) = sum1 f (a + b) + f (a + b) := rfl
    have e2 : sum1 (fun k => f (a + k)) (b + 1) = sum1 (fun k => f (a + k)) b + f (a + b) := rfl
    rw [e1, e2, sum1_split f a b]
    omega
theorem sum1_zero : ∀ n, sum1 (fun _ => 0) n = 0
  | 0 => rfl
  | n + 1 => by unfold sum1; rw [sum1_zero n]; rfl
theorem sum1_swap (f : Nat → Nat → Int) (n : Nat) : ∀ m, sum1 (fun i => sum1 (fun j => f i j) n) m = sum1 (fun j => sum1 (fun i => f i j) m) n
  | 0 => by
    show 0 = sum1 (fun _ => 0) n
    exact (sum1_zero n).symm
  | m + 1 => by
    have e : sum1 (fun i => sum1 (fun j => f i j) n) (m + 1) = sum1 (fun i => sum1 (fun j => f i j) n) m + sum1 (fun j => f m j) n := rfl
    rw [e, sum1_swap f n m, ← sum1_add]
    rfl
theorem valB_sum (b : List Int) : ∀ n, valB b n = sum1 (fun i => rd b i * 2 ^ (8 * i)) n
  | 0 => rfl
  | n + 1 => by
    unfold valB sum1
    rw [valB_sum b n]
theorem valB_congr {a b : List Int} (n : Nat) (h : ∀ i, i < n → rd a i = rd b i) : valB a n = valB b n := by
  rw [valB_sum, valB_sum]
  exact sum1_congr n fun i hi => by rw [h i hi]
theorem valB_in' (b : List Int) : ∀ n, (∀ i, i < n → 0 ≤ rd b i ∧ rd b i < 256) → 0 ≤ valB b n ∧ valB b n < 2 ^ (8 * n)
  | 0, _ => by simp [valB]
  | n + 1, h => by
    have h1 := valB_in' b n (fun i hi => h i (by omega))
    have h2 := h n (by omega)
    unfold valB
    have e : (2 : Int) ^ (8 * (n + 1)) = 2 ^ (8 * n) * 256 := by rw [show 8 * (n + 1) = 8 * n + 8 by omega, Int.pow_add]; rfl
    rw [e]
    generalize (2 : Int) ^ (8 * n) = p at *
    generalize valB b n = V at *
    generalize rd b n = x at *
    have hp : 0 < p := by omega
    have h3 : 0 ≤ x * p := Int.mul_nonneg h2.1 (by omega)
    have h4 : x * p ≤ 255 * p := Int.mul_le_mul_of_nonneg_right (by omega) (by omega)
    omega
theorem m32_in' (x : Int) (h : 0 ≤ x ∧ x < 4294967296) : m32 x = x := Int.emod_eq_of_lt h.1 h.2
theorem p8_succ (n : Nat) : (2 : Int) ^ (8 * (n + 1)) = 2 ^ (8 * n) * 256 := by rw [show 8 * (n + 1) = 8 * n + 8 by omega, Int.pow_add]; rfl
theorem carT_val (s : List Int × Int) (hl : s.1.length = 17) (h : ∀ i, i < 17 → 0 ≤ rd s.1 i ∧ rd s.1 i < 2147483648) (hu : 0 ≤ s.2 ∧ s.2 < 2147483648) : ∀ n, n ≤ 17 →
    (0 ≤ (carT s n).2 ∧ (carT s n).2 < 2147483648 ∧ (0 < n → (carT s n).2 < 16777216)) ∧ (∀ i, i < n → 0 ≤ rd (carT s n).1 i ∧ rd (carT s n).1 i < 256) ∧ (∀ i, n ≤ i → rd (carT s n).1 i = rd s.1 i) ∧
      valB (carT s n).1 n + (carT s n).2 * 2 ^ (8 * n) = s.2 + valB s.1 n
  | 0, _ => ⟨⟨hu.1, hu.2, fun h => by omega⟩, fun i hi => by omega, fun i _ => rfl, by
      show valB s.1 0 + s.2 * 2 ^ (8 * 0) = _
      simp [valB]⟩
  | n + 1, hn => by
    obtain ⟨⟨h1, h2, h3⟩, h4, h5, h6⟩ := carT_val s hl h hu n (by omega)
    have hlc := carT_length s n
    rw [carT_succ]
    have h7 := h5 n (Nat.le_refl _)
    have h8 := h n (by omega)
    rw [← h7] at h8
    have hv : valB s.1 (n + 1) = valB s.1 n + rd (carT s n).1 n * 2 ^ (8 * n) := by rw [h7]; rfl
    generalize carT s n = C at *
    have hY : m32 (C.2 + rd C.1 n) = C.2 + rd C.1 n := m32_in' _ (by omega)
    obtain ⟨Y, hYe⟩ : ∃ Y, Y = C.2 + rd C.1 n := ⟨_, rfl⟩
    have hc : cstep C n = (C.1.set n (Y % 256), Y / 256) := by unfold cstep; rw [hY, hYe]
    rw [hc]
    refine ⟨⟨by show 0 ≤ Y / 256; omega, by show Y / 256 < _; omega, fun _ => by show Y / 256 < _; omega⟩, fun i hi => ?_, fun i hi => ?_, ?_⟩
    · show 0 ≤ rd (C.1.set n (Y % 256)) i ∧ rd (C.1.set n (Y % 256)) i < 256
      rw [rd_set']
      split
      · omega
      · exact h4 i (by omega)
    · show rd (C.1.set n (Y % 256)) i = _
      rw [rd_set', if_neg (by omega)]
      exact h5 i (by omega)
    · show valB (C.1.set n (Y % 256)) (n + 1) + Y / 256 * 2 ^ (8 * (n + 1)) = _
      have e1 : valB (C.1.set n (Y % 256)) (n + 1) = valB C.1 n + Y % 256 * 2 ^ (8 * n) := by
        show valB (C.1.set n (Y % 256)) n + rd (C.1.set n (Y % 256)) n * 2 ^ (8 * n) = _
        rw [valB_set _ _ _ n (Nat.le_refl _), rd_set', if_pos ⟨rfl, by omega⟩]
      rw [e1, p8_succ, hv]
      have hd := Int.emod_add_mul_ediv Y 256
      generalize (2 : Int) ^ (8 * n) = p at *
      generalize Y % 256 = q at *
      generalize Y / 256 = r at *
      grind
theorem plusS_val (h c : List Int) (hl : h.length = 17) (hh : ∀ i, i < 17 → 0 ≤ rd h i ∧ rd h i < 1073741824) (hc : ∀ i, i < 17 → 0 ≤ rd c i ∧ rd c i < 1073741824) : ∀ n, n ≤ 17 →
    (0 ≤ (plusS h c n).2 ∧ (plusS h c n).2 < 16777216) ∧ (∀ i, i < n → 0 ≤ rd (plusS h c n).1 i ∧ rd (plusS h c n).1 i < 256) ∧ (∀ i, n ≤ i → rd (plusS h c n).1 i = rd h i) ∧
      valB (plusS h c n).1 n + (plusS h c n).2 * 2 ^ (8 * n) = valB h n + valB c n
  | 0, _ => ⟨⟨by show (0 : Int) ≤ 0; omega, by show (0 : Int) < _; omega⟩, fun i hi => by omega, fun i _ => rfl, by
      show valB h 0 + 0 * 2 ^ (8 * 0) = _
      simp [valB]⟩
  | n + 1, hn => by
    obtain ⟨⟨h1, h2⟩, h4, h5, h6⟩ := plusS_val h c hl hh hc n (by omega)
    have hlc := plusS_length h c n
    rw [plusS_succ]
    have h7 := h5 n (Nat.le_refl _)
    have h8 := hh n (by omega)
    have h9 := hc n (by omega)
    rw [← h7] at h8
    have hv : valB h (n + 1) = valB h n + rd (plusS h c n).1 n * 2 ^ (8 * n) := by rw [h7]; rfl
    have hv2 : valB c (n + 1) = valB c n + rd c n * 2 ^ (8 * n) := rfl
    generalize plusS h c n = C at *
    have hY : m32 (m32 (C.2 + rd C.1 n) + rd c n) = C.2 + rd C.1 n + rd c n := by rw [m32_in' (C.2 + rd C.1 n) (by omega), m32_in' _ (by omega)]
    obtain ⟨Y, hYe⟩ : ∃ Y, Y = C.2 + rd C.1 n + rd c n := ⟨_, rfl⟩
    have hc : pstep c C n = (C.1.set n (Y % 256), Y / 256) := by unfold pstep; rw [hY, hYe]
    rw [hc]
    refine ⟨⟨by show 0 ≤ Y / 256; omega, by show Y / 256 < _; omega⟩, fun i hi => ?_, fun i hi => ?_, ?_⟩
    · show 0 ≤ rd (C.1.set n (Y % 256)) i ∧ rd (C.1.set n (Y % 256)) i < 256
      rw [rd_set']
      split
      · omega
      · exact h4 i (by omega)
    · show rd (C.1.set n (Y % 256)) i = _
      rw [rd_set', if_neg (by omega)]
      exact h5 i (by omega)
    · show valB (C.1.set n (Y % 256)) (n + 1) + Y / 256 * 2 ^ (8 * (n + 1)) = _
      have e1 : valB (C.1.set n (Y % 256)) (n + 1) = valB C.1 n + Y % 256 * 2 ^ (8 * n) := by
        show valB (C.1.set n (Y % 256)) n + rd (C.1.set n (Y % 256)) n * 2 ^ (8 * n) = _
        rw [valB_set _ _ _ n (Nat.le_refl _), rd_set', if_pos ⟨rfl, by omega⟩]
      rw [e1, p8_succ, hv, hv2]
      have hd := Int.emod_add_mul_ediv Y 256
      generalize (2 : Int) ^ (8 * n) = p at *
      generalize Y % 256 = q at *
      generalize Y / 256 = r at *
      grind
/-- A product's term, as a number. -/
def term1 (h r : List Int) (i j : Nat) : Int := if j ≤ i then rd h j * rd r (i - j) else 320 * (rd h j * rd r (i + 17 - j))
theorem byte_mul (a b : Int) (ha : 0 ≤ a ∧ a < 256) (hb : 0 ≤ b ∧ b < 256) : 0 ≤ a * b ∧ a * b ≤ 65025 := by
  have h1 := Int.mul_nonneg ha.1 hb.1
  have h2 : a * b ≤ 255 * b := Int.mul_le_mul_of_nonneg_right (by omega) hb.1
  omega
theorem termT_eq (h r : List Int) (hh : ∀ i, 0 ≤ rd h i ∧ rd h i < 256) (hr : ∀ i, 0 ≤ rd r i ∧ rd r i < 256) (i j : Nat) : termT h r i j = term1 h r i j ∧ 0 ≤ term1 h r i j ∧ term1 h r i j ≤ 20808000 := by
  unfold termT term1
  by_cases hle : j ≤ i
  · rw [if_pos hle, if_pos hle]
    have := byte_mul _ _ (hh j) (hr (i - j))
    exact ⟨m32_in' _ (by omega), by omega, by omega⟩
  · rw [if_neg hle, if_neg hle]
    have h1 := byte_mul _ _ (hh j) (hr (i + 17 - j))
    have h2 := hh j
    rw [m32_in' (rd h j * 320) (by omega)]
    have e : rd h j * 320 * rd r (i + 17 - j) = 320 * (rd h j * rd r (i + 17 - j)) := by
      rw [Int.mul_comm (rd h j) 320, Int.mul_assoc]
    rw [e]
    exact ⟨m32_in' _ (by omega), by omega, by omega⟩
theorem accT_eq (h r : List Int) (hh : ∀ i, 0 ≤ rd h i ∧ rd h i < 256) (hr : ∀ i, 0 ≤ rd r i ∧ rd r i < 256) (i : Nat) : ∀ n, n ≤ 17 → accT h r i n = sum1 (term1 h r i) n ∧ 0 ≤ accT h r i n ∧ accT h r i n ≤ 20808000 * (n : Int)
  | 0, _ => ⟨rfl, by show (0 : Int) ≤ 0; omega, by show (0 : Int) ≤ _; omega⟩
  | n + 1, hn => by
    obtain ⟨h1, h2, h3⟩ := accT_eq h r hh hr i n (by omega)
    obtain ⟨h4, h5, h6⟩ := termT_eq h r hh hr i n
    unfold accT sum1
    rw [h4, h1] at *
    rw [m32_in' _ (by omega)]
    exact ⟨rfl, by omega, by omega⟩
theorem p136 : (2 : Int) ^ (8 * 17) = 64 * pP + 320 := by decide
/-- A row of the product: one byte times the other number, but for a multiple of the modulus. -/
theorem row_val (h r : List Int) (j : Nat) (hj : j ≤ 17) :
    rd h j * 2 ^ (8 * j) * valB r 17 = sum1 (fun i => term1 h r i j * 2 ^ (8 * i)) 17 + pP * (64 * sum1 (fun i => rd h j * rd r (17 - j + i) * 2 ^ (8 * i)) j) := by
  obtain ⟨d, hd⟩ : ∃ d, d = 17 - j := ⟨_, rfl⟩
  have hjd : 17 = j + d := by omega
  have hdj : 17 = d + j := by omega
  have e1 : sum1 (fun i => term1 h r i j * 2 ^ (8 * i)) 17 = sum1 (fun i => term1 h r i j * 2 ^ (8 * i)) j + sum1 (fun k => term1 h r (j + k) j * 2 ^ (8 * (j + k))) d := by
    have := sum1_split (fun i => term1 h r i j * 2 ^ (8 * i)) j d
    rw [← hjd] at this
    exact this
  have e2 : valB r 17 = sum1 (fun k => rd r k * 2 ^ (8 * k)) d + sum1 (fun i => rd r (d + i) * 2 ^ (8 * (d + i))) j := by
    have := sum1_split (fun k => rd r k * 2 ^ (8 * k)) d j
    rw [← hdj] at this
    rw [valB_sum]
    exact this
  have e3 : sum1 (fun k => term1 h r (j + k) j * 2 ^ (8 * (j + k))) d = rd h j * 2 ^ (8 * j) * sum1 (fun k => rd r k * 2 ^ (8 * k)) d := by
    rw [← sum1_mul]
    refine sum1_congr d fun k hk => ?_
    unfold term1
    rw [if_pos (by omega), show j + k - j = k by omega, Nat.mul_add, Int.pow_add]
    grind
  have e4 : sum1 (fun i => term1 h r i j * 2 ^ (8 * i)) j = 320 * sum1 (fun i => rd h j * rd r (d + i) * 2 ^ (8 * i)) j := by
    rw [← sum1_mul]
    refine sum1_congr j fun i hi => ?_
    unfold term1
    rw [if_neg (by omega), show i + 17 - j = d + i by omega]
    grind
  have e5 : rd h j * 2 ^ (8 * j) * sum1 (fun i => rd r (d + i) * 2 ^ (8 * (d + i))) j = (64 * pP + 320) * sum1 (fun i => rd h j * rd r (d + i) * 2 ^ (8 * i)) j := by
    rw [← sum1_mul, ← sum1_mul, ← p136]
    refine sum1_congr j fun i hi => ?_
    have e6 : (2 : Int) ^ (8 * 17) * 2 ^ (8 * i) = 2 ^ (8 * j) * 2 ^ (8 * (d + i)) := by
      rw [← Int.pow_add, ← Int.pow_add]
      congr 1
      omega
    grind
  rw [e1, e2, Int.mul_add, e3, e4, e5, ← hd]
  generalize sum1 (fun i => rd h j * rd r (d + i) * 2 ^ (8 * i)) j = X
  generalize rd h j * 2 ^ (8 * j) * sum1 (fun k => rd r k * 2 ^ (8 * k)) d = Y
  grind
theorem prod_val (h r : List Int) : ∃ o, valB h 17 * valB r 17 = sum1 (fun i => sum1 (term1 h r i) 17 * 2 ^ (8 * i)) 17 + pP * o := by
  refine ⟨sum1 (fun j => 64 * sum1 (fun i => rd h j * rd r (17 - j + i) * 2 ^ (8 * i)) j) 17, ?_⟩
  rw [← sum1_mul]
  have e1 : valB h 17 * valB r 17 = sum1 (fun j => rd h j * 2 ^ (8 * j) * valB r 17) 17 := by
    rw [valB_sum h 17, Int.mul_comm, ← sum1_mul]
    refine sum1_congr 17 fun i hi => ?_
    rw [Int.mul_comm]
  rw [e1, sum1_congr 17 (fun j hj => row_val h r j (by omega)), sum1_add, ← sum1_swap (fun i j => term1 h r i j * 2 ^ (8 * i)) 17 17]
  congr 1
  refine sum1_congr 17 fun i hi => ?_
  rw [Int.mul_comm, ← sum1_mul]
  refine sum1_congr 17 fun j hj => ?_
  rw [Int.mul_comm]
/-- What a product is kept as. -/
structure Small (h : List Int) : Prop where
  len : h.length = 17
  bytes : ∀ i, 0 ≤ rd h i ∧ rd h i < 256
  top : rd h 16 ≤ 4
theorem p128 : (2 : Int) ^ (8 * 16) = 340282366920938463463374607431768211456 := by decide
theorem p136' : (2 : Int) ^ (8 * 17) = 87112285931760246646623899502532662132736 := by decide
theorem rd_out (xs : List Int) (i : Nat) (h : xs.length ≤ i) : rd xs i = 0 := by
  unfold rd
  rw [List.getD_eq_getElem?_getD, List.getElem?_eq_none h]
  rfl
theorem bytes_of17 {h : List Int} (hl : h.length = 17) (hb : ∀ i, i < 17 → 0 ≤ rd h i ∧ rd h i < 256) (i : Nat) : 0 ≤ rd h i ∧ rd h i < 256 := by
  by_cases hi : i < 17
  · exact hb i hi
  · rw [rd_out h i (by omega)]
    omega
theorem timesT_val (h r : List Int) (hh : ∀ i, 0 ≤ rd h i ∧ rd h i < 256) (hr : ∀ i, 0 ≤ rd r i ∧ rd r i < 256) : Small (timesT h r) ∧ ∃ o, valB (timesT h r) 17 = valB h 17 * valB r 17 - pP * o := by
  obtain ⟨o, ho⟩ := prod_val h r
  have hx : ∀ i, i < 17 → rd (xTo h r 17) i = sum1 (term1 h r i) 17 ∧ 0 ≤ rd (xTo h r 17) i ∧ rd (xTo h r 17) i ≤ 353736000 := fun i hi => by
    rw [rd_xTo, if_pos ⟨hi, hi⟩]
    obtain ⟨h1, h2, h3⟩ := accT_eq h r hh hr i 17 (by omega)
    exact ⟨h1, h2, by omega⟩
  have hxv : valB (xTo h r 17) 17 = sum1 (fun i => sum1 (term1 h r i) 17 * 2 ^ (8 * i)) 17 := by
    rw [valB_sum]
    exact sum1_congr 17 fun i hi => by rw [(hx i hi).1]
  rw [← hxv] at ho
  have hxl := xTo_length h r 17
  have hE : timesT h r = endT (carT (midT (carT (xTo h r 17, 0) 16)) 16) := rfl
  rw [hE, ho]
  clear hE hxv ho
  generalize xTo h r 17 = X at *
  obtain ⟨⟨c1, c2, c3⟩, c4, c5, c6⟩ := carT_val (X, 0) hxl (fun i hi => by have := (hx i hi).2; show 0 ≤ rd X i ∧ rd X i < _; omega) ⟨by show (0 : Int) ≤ 0; omega, by show (0 : Int) < _; omega⟩ 16 (by omega)
  have c3' := c3 (by omega)
  have cl := carT_length (X, 0) 16
  generalize carT (X, 0) 16 = C at *
  have x16 := hx 16 (by omega)
  have c16 : rd C.1 16 = rd X 16 := c5 16 (Nat.le_refl _)
  have hv17 : valB X 17 = valB X 16 + rd X 16 * 2 ^ (8 * 16) := rfl
  have c6' : valB C.1 16 + C.2 * 2 ^ (8 * 16) = 0 + valB X 16 := c6
  rw [p128] at c6' hv17
  obtain ⟨Y, hY⟩ : ∃ Y, Y = C.2 + rd X 16 := ⟨_, rfl⟩
  have hm : midT C = (C.1.set 16 (Y % 4), 5 * (Y / 4)) := by
    unfold midT
    rw [c16, m32_in' (C.2 + rd X 16) (by omega), ← hY, m32_in' _ (by omega)]
  have hYb : 0 ≤ Y ∧ Y < 370513216 := by omega
  rw [hm]
  have ml : (C.1.set 16 (Y % 4)).length = 17 := by rw [List.length_set, cl]; exact hxl
  have mlow : ∀ i, i < 16 → rd (C.1.set 16 (Y % 4)) i = rd C.1 i := fun i hi => by rw [rd_set', if_neg (by omega)]
  have mtop : rd (C.1.set 16 (Y % 4)) 16 = Y % 4 := by rw [rd_set', if_pos ⟨rfl, by rw [cl]; show 16 < X.length; omega⟩]
  have mv : valB (C.1.set 16 (Y % 4)) 16 = valB C.1 16 := valB_congr 16 mlow
  have cv := valB_in' C.1 16 c4
  rw [p128] at cv
  obtain ⟨⟨d1, d2, d3⟩, d4, d5, d6⟩ := carT_val (C.1.set 16 (Y % 4), 5 * (Y / 4)) ml (fun i hi => by
    show 0 ≤ rd (C.1.set 16 (Y % 4)) i ∧ rd (C.1.set 16 (Y % 4)) i < _
    by_cases h16 : i < 16
    · rw [mlow i h16]; have := c4 i h16; omega
    · obtain rfl : i = 16 := by omega
      rw [mtop]; omega) ⟨by show (0 : Int) ≤ 5 * (Y / 4); omega, by show 5 * (Y / 4) < _; omega⟩ 16 (by omega)
  have dl := carT_length (C.1.set 16 (Y % 4), 5 * (Y / 4)) 16
  generalize carT (C.1.set 16 (Y % 4), 5 * (Y / 4)) 16 = D at *
  have d16 : rd D.1 16 = Y % 4 := (d5 16 (Nat.le_refl _)).trans mtop
  have d6' : valB D.1 16 + D.2 * 2 ^ (8 * 16) = 5 * (Y / 4) + valB C.1 16 := by rw [d6]; show 5 * (Y / 4) + valB (C.1.set 16 (Y % 4)) 16 = _; rw [mv]
  rw [p128] at d6'
  have dv := valB_in' D.1 16 d4
  rw [p128] at dv
  have hD2 : 0 ≤ D.2 ∧ D.2 ≤ 1 := by omega
  have he : endT D = D.1.set 16 (Y % 4 + D.2) := by
    unfold endT
    rw [d16, m32_in' _ (by omega)]
  rw [he]
  have dl' : D.1.length = 17 := by rw [dl]; exact ml
  have elow : ∀ i, i < 16 → rd (D.1.set 16 (Y % 4 + D.2)) i = rd D.1 i := fun i hi => by rw [rd_set', if_neg (by omega)]
  have etop : rd (D.1.set 16 (Y % 4 + D.2)) 16 = Y % 4 + D.2 := by rw [rd_set', if_pos ⟨rfl, by omega⟩]
  have ev : valB (D.1.set 16 (Y % 4 + D.2)) 17 = valB D.1 16 + (Y % 4 + D.2) * 2 ^ (8 * 16) := by
    show valB (D.1.set 16 (Y % 4 + D.2)) 16 + rd (D.1.set 16 (Y % 4 + D.2)) 16 * 2 ^ (8 * 16) = _
    rw [valB_congr 16 elow, etop]
  have el : (D.1.set 16 (Y % 4 + D.2)).length = 17 := by rw [List.length_set]; exact dl'
  refine ⟨⟨el, bytes_of17 el fun i hi => ?_, by rw [etop]; omega⟩, o + Y / 4, ?_⟩
  · by_cases h16 : i < 16
    · rw [elow i h16]; exact d4 i h16
    · obtain rfl : i = 16 := by omega
      rw [etop]; omega
  · rw [ev, p128, Int.mul_add]
    have hpp : pP * (Y / 4) = 1361129467683753853853498429727072845819 * (Y / 4) := rfl
    rw [hpp]
    generalize pP * o = O
    generalize valB D.1 16 = VD at *
    generalize valB C.1 16 = VC at *
    generalize valB X 17 = V17 at *
    generalize valB X 16 = VX at *
    generalize rd X 16 = x at *
    generalize D.2 = d at *
    generalize C.2 = c at *
    omega
theorem plus1_val (h c : List Int) (hl : h.length = 17) (hh : ∀ i, 0 ≤ rd h i ∧ rd h i < 256) (hc : ∀ i, 0 ≤ rd c i ∧ rd c i < 256) :
    (∀ i, 0 ≤ rd (plus1 h c) i ∧ rd (plus1 h c) i < 256) ∧ ∃ u, 0 ≤ u ∧ valB (plus1 h c) 17 + u * 87112285931760246646623899502532662132736 = valB h 17 + valB c 17 := by
  obtain ⟨⟨h1, h2⟩, h4, h5, h6⟩ := plusS_val h c hl (fun i _ => by have := hh i; omega) (fun i _ => by have := hc i; omega) 17 (Nat.le_refl _)
  rw [p136'] at h6
  exact ⟨bytes_of17 ((plusS_length h c 17).trans hl) h4, (plusS h c 17).2, h1, h6⟩
theorem small_val {h : List Int} (hs : Small h) : 0 ≤ valB h 17 ∧ valB h 17 < 1701411834604692317316873037158841057280 := by
  have h1 := valB_in' h 16 (fun i _ => hs.bytes i)
  have h2 := hs.bytes 16
  have h3 := hs.top
  have e : valB h 17 = valB h 16 + rd h 16 * 2 ^ (8 * 16) := rfl
  rw [p128] at h1 e
  omega
theorem hTo_val (r bs : List Int) (hr : ∀ i, 0 ≤ rd r i ∧ rd r i < 256) (hb : ∀ i, 0 ≤ rd bs i ∧ rd bs i < 256) : ∀ n, Small (hTo r bs n) ∧ valB (hTo r bs n) 17 % pP = sumN (valB r 17) bs n
  | 0 => by
    have h0 : ∀ i, rd (List.replicate 17 (0 : Int)) i = 0 := rd_rep0 17
    refine ⟨⟨by simp [hTo], fun i => ?_, ?_⟩, ?_⟩
    · show 0 ≤ rd (List.replicate 17 (0 : Int)) i ∧ rd (List.replicate 17 (0 : Int)) i < 256
      rw [h0]; omega
    · show rd (List.replicate 17 (0 : Int)) 16 ≤ 4
      rw [h0]; omega
    · show valB (List.replicate 17 0) 17 % pP = 0
      decide
  | n + 1 => by
    obtain ⟨ih1, ih2⟩ := hTo_val r bs hr hb n
    have hys : ∀ i, 0 ≤ rd (bs.drop (16 * n)) i ∧ rd (bs.drop (16 * n)) i < 256 := fun i => by rw [rd_drop]; exact hb _
    have hbo := blockOf_ok _ hys
    have hbv := blockOf_val _ hys
    obtain ⟨hp1, u, hu, hp2⟩ := plus1_val (hTo r bs n) (blockOf (bs.drop (16 * n))) ih1.len ih1.bytes hbo
    have hpv := valB_in' (plus1 (hTo r bs n) (blockOf (bs.drop (16 * n)))) 17 (fun i _ => hp1 i)
    have hsv := small_val ih1
    rw [p136'] at hpv
    have hu0 : u = 0 := by omega
    subst hu0
    obtain ⟨ht1, o, ht2⟩ := timesT_val _ r hp1 hr
    have hE : hTo r bs (n + 1) = timesT (plus1 (hTo r bs n) (blockOf (bs.drop (16 * n)))) r := rfl
    have hS : sumN (valB r 17) bs (n + 1) = (sumN (valB r 17) bs n + valB (blockOf (bs.drop (16 * n))) 17) * valB r 17 % pP := rfl
    rw [hE, hS]
    refine ⟨ht1, ?_⟩
    rw [ht2, ← ih2]
    have hp3 : valB (plus1 (hTo r bs n) (blockOf (bs.drop (16 * n)))) 17 = valB (hTo r bs n) 17 + valB (blockOf (bs.drop (16 * n))) 17 := by omega
    rw [hp3]
    generalize valB (hTo r bs n) 17 = V at *
    generalize valB (blockOf (bs.drop (16 * n))) 17 = B at *
    generalize valB r 17 = R at *
    have hV := Int.emod_add_mul_ediv V pP
    have e : (V + B) * R - pP * o = (V % pP + B) * R + pP * (V / pP * R - o) := by
      generalize V % pP = a at *
      generalize V / pP = q at *
      rw [← hV]
      grind
    rw [e, Int.add_mul_emod_self_left]
theorem minusP_val : valB minusP 17 = 87112285931760246646623899502532662132736 - pP := by decide
theorem minusP_ok (i : Nat) : 0 ≤ rd minusP i ∧ rd minusP i < 256 := by
  refine bytes_of17 rfl (fun i hi => ?_) i
  have : i = 0 ∨ i = 1 ∨ i = 2 ∨ i = 3 ∨ i = 4 ∨ i = 5 ∨ i = 6 ∨ i = 7 ∨ i = 8 ∨ i = 9 ∨ i = 10 ∨ i = 11 ∨ i = 12 ∨ i = 13 ∨ i = 14 ∨ i = 15 ∨ i = 16 := by omega
  rcases this with rfl | rfl | rfl | rfl | rfl | rfl | rfl | rfl | rfl | rfl | rfl | rfl | rfl | rfl | rfl | rfl | rfl <;> decide
theorem finT_val (h : List Int) (hs : Small h) : (∀ i, 0 ≤ rd (finT h) i ∧ rd (finT h) i < 256) ∧ (finT h).length = 17 ∧ valB (finT h) 17 = valB h 17 % pP := by
  obtain ⟨hp1, u, hu, hp2⟩ := plus1_val h minusP hs.len hs.bytes minusP_ok
  have hsv := small_val hs
  have hpl : (plus1 h minusP).length = 17 := (plus1_length _ _).trans hs.len
  have hpv := valB_in' (plus1 h minusP) 16 (fun i _ => hp1 i)
  have e : valB (plus1 h minusP) 17 = valB (plus1 h minusP) 16 + rd (plus1 h minusP) 16 * 2 ^ (8 * 16) := rfl
  have ht := hp1 16
  rw [p128] at hpv e
  rw [minusP_val] at hp2
  have hpp : pP = 1361129467683753853853498429727072845819 := rfl
  unfold finT
  by_cases h0 : rd (plus1 h minusP) 16 / 128 = 0
  · rw [if_pos h0]
    refine ⟨hp1, hpl, ?_⟩
    generalize valB (plus1 h minusP) 17 = W at *
    generalize valB (plus1 h minusP) 16 = W' at *
    generalize rd (plus1 h minusP) 16 = x at *
    generalize valB h 17 = V at *
    have hu1 : u = 1 := by omega
    subst hu1
    have e2 : V = W + pP * 1 := by omega
    rw [e2, Int.add_mul_emod_self_left]
    exact (Int.emod_eq_of_lt (by omega) (by omega)).symm
  · rw [if_neg h0]
    refine ⟨hs.bytes, hs.len, ?_⟩
    generalize valB (plus1 h minusP) 17 = W at *
    generalize valB (plus1 h minusP) 16 = W' at *
    generalize rd (plus1 h minusP) 16 = x at *
    generalize valB h 17 = V at *
    have hu0 : u = 0 := by omega
    subst hu0
    exact (Int.emod_eq_of_lt (by omega) (by omega)).symm
theorem rd_outT (h : List Int) (i : Nat) : ∀ n, n ≤ 16 → rd (outT h n) i = if i < n then rd h i % 256 else 0
  | 0, _ => by
    rw [if_neg (by omega)]
    exact rd_rep0 _ _
  | n + 1, hn => by
    rw [outT_succ, rd_set', outT_length, rd_outT h i n (by omega)]
    by_cases h1 : n = i
    · subst h1
      rw [if_pos ⟨rfl, by omega⟩, if_pos (by omega)]
    · rw [if_neg (by omega)]
      by_cases h2 : i < n
      · rw [if_pos h2, if_pos (by omega)]
      · rw [if_neg h2, if_neg (by omega)]
/-- The reference's tag is the program's. -/
theorem tagT_eq (key bs : List Int) (hk : key.length = 32) (rk : ∀ i, 0 ≤ rd key i ∧ rd key i < 256) (rb : ∀ i, 0 ≤ rd bs i ∧ rd bs i < 256) : tagT key bs = polySum key bs := by
  obtain ⟨hpb, hpv⟩ := poly_num key bs hk rk rb
  have hrb := rbytes_in key hk rk
  obtain ⟨hs, hv⟩ := hTo_val (rbytes key) bs hrb rb ((bs.length + 15) / 16)
  obtain ⟨hf1, hf2, hf3⟩ := finT_val _ hs
  rw [hv] at hf3
  rw [← hf3] at hpv
  have hE : tagT key bs = outT (plus1 (finT (hTo (rbytes key) bs ((bs.length + 15) / 16))) (putTo (fun j => rd key (16 + j)) 16)) 16 := rfl
  rw [hE]
  have hFb : 0 ≤ valB (finT (hTo (rbytes key) bs ((bs.length + 15) / 16))) 17 ∧ valB (finT (hTo (rbytes key) bs ((bs.length + 15) / 16))) 17 < pP := by
    rw [hf3, ← hv]
    exact ⟨Int.emod_nonneg _ (by decide), Int.emod_lt_of_pos _ (by decide)⟩
  generalize finT (hTo (rbytes key) bs ((bs.length + 15) / 16)) = F at *
  have hKr : ∀ i, rd (putTo (fun j => rd key (16 + j)) 16) i = if i < 16 then rd key (16 + i) else 0 := fun i => rd_putTo _ _ _ (by omega)
  have hKb : ∀ i, 0 ≤ rd (putTo (fun j => rd key (16 + j)) 16) i ∧ rd (putTo (fun j => rd key (16 + j)) 16) i < 256 := fun i => by
    rw [hKr]
    split
    · exact rk _
    · omega
  have hKv : valB (putTo (fun j => rd key (16 + j)) 16) 17 = valB (key.drop 16) 16 := by
    have e : valB (putTo (fun j => rd key (16 + j)) 16) 17 = valB (putTo (fun j => rd key (16 + j)) 16) 16 + rd (putTo (fun j => rd key (16 + j)) 16) 16 * 2 ^ (8 * 16) := rfl
    rw [e, hKr, if_neg (by omega), valB_congr 16 (fun i hi => by rw [hKr, if_pos hi, rd_drop] : ∀ i, i < 16 → rd (putTo (fun j => rd key (16 + j)) 16) i = rd (key.drop 16) i)]
    simp
  have hKb2 := valB_in' (key.drop 16) 16 (fun i _ => by rw [rd_drop]; exact rk _)
  rw [p128] at hKb2
  obtain ⟨hq1, u, hu, hq2⟩ := plus1_val F _ hf2 hf1 hKb
  rw [hKv] at hq2
  generalize plus1 F (putTo (fun j => rd key (16 + j)) 16) = Q at *
  have hQv := valB_in' Q 16 (fun i _ => hq1 i)
  have e : valB Q 17 = valB Q 16 + rd Q 16 * 2 ^ (8 * 16) := rfl
  rw [p128] at hQv e
  have hQ17 := valB_in' Q 17 (fun i _ => hq1 i)
  rw [p136'] at hQ17
  have hpp : pP = 1361129467683753853853498429727072845819 := rfl
  have ho : ∀ i, i < 16 → rd (outT Q 16) i = rd Q i := fun i hi => by
    rw [rd_outT Q i 16 (Nat.le_refl _), if_pos hi]
    have := hq1 i
    omega
  have hob : ∀ i, 0 ≤ rd (outT Q 16) i ∧ rd (outT Q 16) i < 256 := fun i => by
    rw [rd_outT Q i 16 (Nat.le_refl _)]
    split <;> omega
  have hval : valB (outT Q 16) 16 = valB (polySum key bs) 16 := by
    rw [valB_congr 16 ho, hpv]
    generalize valB Q 17 = A at *
    generalize valB Q 16 = B at *
    generalize rd Q 16 = x at *
    generalize valB F 17 = V at *
    generalize valB (key.drop 16) 16 = K at *
    omega
  refine ext_rd (by rw [outT_length, polySum_length]) fun i hi => ?_
  rw [outT_length] at hi
  exact valB_inj _ _ hob hpb 16 hval i hi
end Go.Proofs.YtlikinglgegclaaDoor
/- What opening needs: bytes, what a seal opens to. -/
namespace Go.Proofs.YtlikinglgegclaaDoor
open Go.RowKit Go.Cour
theorem bytesOk_set {xs : List Int} (h : bytesOk xs) (i : Nat) (x : Int) (h0 : 0 ≤ x ∧ x < 256) : bytesOk (xs.set i x) := by
  intro j
  rw [rd_set']
  split
  · exact h0
  · exact h j
theorem bytesOk_zeros' (n : Nat) : bytesOk (List.replicate n 0) := by
  intro i
  unfold rd
  rw [List.getD_eq_getElem?_getD, List.getElem?_replicate]
  split <;> simp
theorem outS_ok (l h : Int) (key : List Int) : ∀ n, bytesOk (outS l h key n).1
  | 0 => by rw [outS_zero]; exact bytesOk_zeros' 16
  | n + 1 => by
    rw [outS_succ]
    exact bytesOk_set (outS_ok l h key n) _ _ ⟨Int.emod_nonneg _ (by decide), Int.emod_lt_of_pos _ (by decide)⟩
theorem tagOf_ok (key nonce ad b : List Int) : bytesOk (tagOf key nonce ad b) := outS_ok _ _ _ _
theorem bytesOk_drop {xs : List Int} (h : bytesOk xs) (n : Nat) : bytesOk (xs.drop n) := fun i => by rw [rd_drop]; exact h _
theorem bytesOk_take {xs : List Int} (h : bytesOk xs) (n : Nat) : bytesOk (xs.take n) := fun i => by
  by_cases hi : i < n
  · rw [rd_take _ _ _ hi]; exact h i
  · unfold rd; rw [List.getD_eq_getElem?_getD, List.getElem?_take, if_neg hi]; simp
end Go.Proofs.YtlikinglgegclaaDoor
/- How long a seal is. -/
namespace Go.Proofs.YtlikinglgegclaaDoor
open Go.RowKit Go.Cour
theorem sealText_length (key nonce ad b : List Int) : (sealText key nonce ad b).length = b.length + 16 := by
  rw [sealText, List.length_append, xorStream_length, tagOf_length]
end Go.Proofs.YtlikinglgegclaaDoor
/- What was sealed is opened as it was. -/
namespace Go.Proofs.YtlikinglgegclaaDoor
open Go.RowKit Go.Cour
theorem outTo_ok (s f : List Int) : ∀ n, bytesOk (outTo s f n)
  | 0 => bytesOk_zeros' 64
  | n + 1 => by
    unfold outTo
    rw [foldl_succ]
    exact bytesOk_set (outTo_ok s f n) _ _ ⟨Int.emod_nonneg _ (by decide), Int.emod_lt_of_pos _ (by decide)⟩
theorem block_ok (key : List Int) (c : Int) (nonce : List Int) : bytesOk (block key c nonce) := outTo_ok _ _ _
theorem rd_zeros (n i : Nat) : rd (List.replicate n 0) i = 0 := by
  unfold rd
  rw [List.getD_eq_getElem?_getD, List.getElem?_replicate]
  split <;> rfl
theorem rd_xorTo (key : List Int) (c : Int) (nonce xs : List Int) (i : Nat) (hi : i < xs.length) : ∀ n, n ≤ xs.length → rd (xorTo key c nonce xs n) i = if i < n then xorByte key c nonce xs i else 0
  | 0, _ => by
    rw [if_neg (by omega)]
    exact rd_zeros _ _
  | n + 1, hn => by
    rw [xorTo_succ, rd_set', xorTo_length, rd_xorTo key c nonce xs i hi n (by omega)]
    by_cases h : n = i
    · subst h
      rw [if_pos ⟨rfl, hi⟩, if_pos (by omega)]
    · rw [if_neg (fun h' => h h'.1)]
      by_cases h2 : i < n
      · rw [if_pos h2, if_pos (by omega)]
      · rw [if_neg h2, if_neg (by omega)]
theorem rd_xorStream (key : List Int) (c : Int) (nonce xs : List Int) (i : Nat) (hi : i < xs.length) : rd (xorStream key c nonce xs) i = xorByte key c nonce xs i := by
  rw [xorStream, rd_xorTo key c nonce xs i hi _ (Nat.le_refl _), if_pos hi]
theorem xorStream_ok (key : List Int) (c : Int) (nonce xs : List Int) (h : bytesOk xs) : bytesOk (xorStream key c nonce xs) := by
  intro i
  by_cases hi : i < xs.length
  · rw [rd_xorStream key c nonce xs i hi]
    exact xor_u8_bound _ _ (h i) (block_ok _ _ _ _)
  · unfold rd
    rw [List.getD_eq_getElem?_getD, List.getElem?_eq_none (by rw [xorStream_length]; omega)]
    simp
theorem sealText_ok (key nonce ad b : List Int) (h : bytesOk b) : bytesOk (sealText key nonce ad b) := by
  intro i
  unfold sealText rd
  rw [List.getD_eq_getElem?_getD, List.getElem?_append]
  split
  · rw [← List.getD_eq_getElem?_getD]; exact xorStream_ok key 1 nonce b h i
  · rw [← List.getD_eq_getElem?_getD]; exact tagOf_ok _ _ _ _ _
end Go.Proofs.YtlikinglgegclaaDoor
