import Derived.Test.YtlikinglgegclaaDoorProg
import Derived.StillTailTactics
import Derived.Deep.QuietTactic
import Derived.BigQuiet
import Derived.Laws.Closers25b
import Derived.Laws.BitsLemmas
import Derived.KernelRfl
import Derived.Test.YtlikinglgegclaaDoorMgTO0
import Derived.Test.YtlikinglgegclaaDoorMgTO1
import Derived.Test.YtlikinglgegclaaDoorMgTO2
import Derived.Test.YtlikinglgegclaaDoorMgTO3
import Derived.Test.YtlikinglgegclaaDoorMgTO4
import Derived.Test.YtlikinglgegclaaDoorMgTO5
import Derived.Test.YtlikinglgegclaaDoorMgTO6
set_option linter.unusedSimpArgs false
set_option linter.unusedVariables false
open List (getElem_toArray getElem_cons_zero getElem_cons_succ)
/- A tag's arithmetic: carry. -/
namespace Go.Proofs.YtlikinglgegclaaDoor
open Go.RowKit Go.Cour
theorem foldl_succ' {α : Type} (f : α → Nat → α) (s : α) (n : Nat) : (List.range (n + 1)).foldl f s = f ((List.range n).foldl f s) n := by
  rw [List.range_succ, List.foldl_append]; rfl
/-- The lowest 26 bits. -/
def low26 (x : Int) : Int := bits .and .u64 x 67108863
theorem low26_eq (x : Int) (h0 : 0 ≤ x) (h1 : x < 18446744073709551616) : low26 x = x % 67108864 :=
  bits_mask .u64 64 (by decide) (fun n h0 h1 => by rw [IntKind.wrap_u64]; omega) 26 (by decide) x h0 (by simpa using h1)
/-- A number of 64 bits. -/
def u64 (x : Int) : Int := IntKind.u64.wrap x
theorem u64_eq (x : Int) : u64 x = x % 18446744073709551616 := by unfold u64; rw [IntKind.wrap_u64]
/-- One part: what was carried is taken in, what is too much is carried on. -/
def carry1 (s : List Int × Int) (i : Nat) : List Int × Int := ((s.1.set i (u64 (rd s.1 i + s.2))).set i (low26 (u64 (rd s.1 i + s.2))), u64 (rd s.1 i + s.2) / 67108864)
def carryTo (xs : List Int) (n : Nat) : List Int × Int := (List.range n).foldl carry1 (xs, 0)
def carryRound (xs : List Int) : List Int := (carryTo xs 5).1.set 0 (u64 (rd (carryTo xs 5).1 0 + u64 (5 * (carryTo xs 5).2)))
def carryN (xs : List Int) (n : Nat) : List Int := (List.range n).foldl (fun s _ => carryRound s) xs
theorem carryTo_succ (xs : List Int) (n : Nat) : carryTo xs (n + 1) = carry1 (carryTo xs n) n := foldl_succ' _ _ _
theorem carryN_succ (xs : List Int) (n : Nat) : carryN xs (n + 1) = carryRound (carryN xs n) := foldl_succ' _ _ _
theorem carryN_zero (xs : List Int) : carryN xs 0 = xs := rfl
theorem carryTo_length (xs : List Int) : ∀ n, (carryTo xs n).1.length = xs.length
  | 0 => rfl
  | n + 1 => by rw [carryTo_succ]; simp only [carry1, List.length_set]; exact carryTo_length xs n
theorem carryRound_length (xs : List Int) : (carryRound xs).length = xs.length := by
  simp only [carryRound, List.length_set]; exact carryTo_length xs 5
/-- What the blocks of a call of carry hold. -/
structure CS (w wr : World) (xs : List Int) : Prop where
  a : Blk wr w.heap.size 165 (ints .u64 xs)
  r : Blk wr (w.heap.size + 1) 165 (ints .u64 (List.replicate 5 0))
  below : Below w.heap.size w wr
theorem CS.set {w wr : World} {xs : List Int} (h : CS w wr xs) (i : Nat) (x : Int) : CS w (wr.setCell ⟨w.heap.size, i, none⟩ (.int .u64 x)) (xs.set i x) :=
  ⟨h.a.setI i x, h.r.setOther (by simp) _, h.below.setCell (by simp) _⟩
end Go.Proofs.YtlikinglgegclaaDoor
/- A tag's arithmetic: a product. -/
namespace Go.Proofs.YtlikinglgegclaaDoor
open Go.RowKit Go.Cour
def term (a b : List Int) (i j : Nat) : Int := if 5 ≤ i + j then u64 (u64 (rd a i * rd b j) * 5) else u64 (rd a i * rd b j)
def tinTo (a b : List Int) (i : Nat) (s : List Int) (n : Nat) : List Int := (List.range n).foldl (fun s j => s.set ((i + j) % 5) (u64 (rd s ((i + j) % 5) + term a b i j))) s
def toutTo (a b : List Int) (n : Nat) : List Int := (List.range n).foldl (fun s i => tinTo a b i s 5) (List.replicate 5 0)
def times (a b : List Int) : List Int := carryN (toutTo a b 5) 2
theorem tinTo_succ (a b : List Int) (i : Nat) (s : List Int) (n : Nat) : tinTo a b i s (n + 1) = (tinTo a b i s n).set ((i + n) % 5) (u64 (rd (tinTo a b i s n) ((i + n) % 5) + term a b i n)) := foldl_succ' _ _ _
theorem toutTo_succ (a b : List Int) (n : Nat) : toutTo a b (n + 1) = tinTo a b n (toutTo a b n) 5 := foldl_succ' _ _ _
theorem toutTo_zero (a b : List Int) : toutTo a b 0 = List.replicate 5 0 := rfl
theorem tinTo_length (a b : List Int) (i : Nat) (s : List Int) : ∀ n, (tinTo a b i s n).length = s.length
  | 0 => rfl
  | n + 1 => by rw [tinTo_succ, List.length_set]; exact tinTo_length a b i s n
theorem toutTo_length (a b : List Int) : ∀ n, (toutTo a b n).length = 5
  | 0 => by simp [toutTo_zero]
  | n + 1 => by rw [toutTo_succ, tinTo_length]; exact toutTo_length a b n
/-- What the blocks of a call of times hold. -/
structure TS (w wr : World) (a b s : List Int) : Prop where
  a : Blk wr w.heap.size 165 (ints .u64 a)
  b : Blk wr (w.heap.size + 1) 165 (ints .u64 b)
  r : Blk wr (w.heap.size + 1 + 1) 165 (ints .u64 (List.replicate 5 0))
  s : Blk wr (w.heap.size + 1 + 1 + 1) 165 (ints .u64 s)
  below : Below w.heap.size w wr
theorem TS.set {w wr : World} {a b s : List Int} (h : TS w wr a b s) (i : Nat) (x : Int) : TS w (wr.setCell ⟨w.heap.size + 1 + 1 + 1, i, none⟩ (.int .u64 x)) a b (s.set i x) :=
  ⟨h.a.setOther (by simp; try omega) _, h.b.setOther (by simp; try omega) _, h.r.setOther (by simp; try omega) _, h.s.setI i x, h.below.setCell (by simp; try omega) _⟩
theorem TS.drewN {w wr : World} {a b s : List Int} (h : TS w wr a b s) (n : Nat) : TS w (wr.drewN n) a b s := ⟨h.a.drewN n, h.b.drewN n, h.r.drewN n, h.s.drewN n, below_drewN h.below n⟩
end Go.Proofs.YtlikinglgegclaaDoor
/- A tag's arithmetic: bytes as parts. -/
namespace Go.Proofs.YtlikinglgegclaaDoor
open Go.RowKit Go.Cour
attribute [local go_sem] max2_int min2_int
/-- Bit i of bytes, where it stands in its part. -/
def pbit (b : List Int) (i : Nat) : Int := u64 (u64 (bits .and .u8 (rd b (i / 8) / 2 ^ (i % 8)) 1) * 2 ^ (i - 26 * min (i / 26) 4))
def partsTo (b : List Int) (n : Nat) : List Int := (List.range n).foldl (fun s i => s.set (min (i / 26) 4) (bits .or .u64 (rd s (min (i / 26) 4)) (pbit b i))) (List.replicate 5 0)
def parts (b : List Int) : List Int := partsTo b 136
theorem partsTo_succ (b : List Int) (n : Nat) : partsTo b (n + 1) = (partsTo b n).set (min (n / 26) 4) (bits .or .u64 (rd (partsTo b n) (min (n / 26) 4)) (pbit b n)) := foldl_succ' _ _ _
theorem partsTo_zero (b : List Int) : partsTo b 0 = List.replicate 5 0 := rfl
theorem partsTo_length (b : List Int) : ∀ n, (partsTo b n).length = 5
  | 0 => by simp [partsTo_zero]
  | n + 1 => by rw [partsTo_succ, List.length_set]; exact partsTo_length b n
/-- What the blocks of a call of parts hold. -/
structure PS (w wr : World) (b s : List Int) : Prop where
  b : Blk wr w.heap.size 162 (ints .u8 b)
  r : Blk wr (w.heap.size + 1) 165 (ints .u64 (List.replicate 5 0))
  s : Blk wr (w.heap.size + 1 + 1) 165 (ints .u64 s)
  below : Below w.heap.size w wr
theorem PS.set {w wr : World} {b s : List Int} (h : PS w wr b s) (i : Nat) (x : Int) : PS w (wr.setCell ⟨w.heap.size + 1 + 1, i, none⟩ (.int .u64 x)).drew b (s.set i x) :=
  ⟨(h.b.setOther (by simp; try omega) _).drew, (h.r.setOther (by simp; try omega) _).drew, (h.s.setI i x).drew, (h.below.setCell (by simp; try omega) _).drew⟩
end Go.Proofs.YtlikinglgegclaaDoor
/- A tag's arithmetic: the least 128 bits of a number below the modulus. -/
namespace Go.Proofs.YtlikinglgegclaaDoor
open Go.RowKit Go.Cour
def more5 (a : List Int) : List Int × Int := carryTo (a.set 0 (u64 (rd a 0 + 5))) 5
def lowA (a : List Int) : List Int := if 0 < (more5 (carryN a 2)).2 then (more5 (carryN a 2)).1 else carryN a 2
def lowL (x : List Int) : Int := bits .or .u64 (bits .or .u64 (rd x 0) (u64 (rd x 1 * 67108864))) (u64 (rd x 2 * 4503599627370496))
def lowH (x : List Int) : Int := bits .or .u64 (bits .or .u64 (rd x 2 / 4096) (u64 (rd x 3 * 16384))) (u64 (rd x 4 * 1099511627776))
/-- What the blocks of a call of low hold. -/
structure LS (w wr : World) (H : Nat) (a m : List Int) : Prop where
  a : Blk wr w.heap.size 165 (ints .u64 a)
  m : Blk wr H 165 (ints .u64 m)
  below : Below w.heap.size w wr
  lt : w.heap.size < H
theorem LS.set {w wr : World} {H : Nat} {a m : List Int} (h : LS w wr H a m) (i : Nat) (x : Int) : LS w (wr.setCell ⟨H, i, none⟩ (.int .u64 x)) H a (m.set i x) :=
  ⟨h.a.setOther (by have := h.lt; simp; try omega) _, h.m.setI i x, h.below.setCell (by have := h.lt; simp; try omega) _, h.lt⟩
/-- The world when the second copy is laid. -/
def lowW (w wx : World) (C : List Int) : World := ((wx.setRow w.heap.size (ints .u64 C).toArray).alloc (.cells #[.int .u64 0, .int .u64 0, .int .u64 0, .int .u64 0, .int .u64 0] 165)).setRow wx.heap.size (ints .u64 C).toArray
theorem LS.start {w wx : World} {a C : List Int} (hb : Below (w.alloc (.cells (ints .u64 a).toArray 165)).heap.size (w.alloc (.cells (ints .u64 a).toArray 165)) wx) : LS w (lowW w wx C) wx.heap.size C C := by
  have h0 : Blk (w.alloc (.cells (ints .u64 a).toArray 165)) w.heap.size 165 (ints .u64 a) := Blk.new w 165 _
  have hs := hb.size
  simp at hs
  refine ⟨?_, ?_, ?_, by omega⟩
  · exact (((h0.belowAll hb).setRow _).alloc _).setRowOther (by omega) _
  · exact (Blk.new' (wx.setRow w.heap.size (ints .u64 C).toArray) 165 (ints .u64 (List.replicate 5 0)) _ (by simp)).setRow _
  · refine below_setRow ((below_setRow (below_then (((Below.refl _ _).alloc (Nat.le_refl _) _)) (by simp) hb) (Nat.le_refl _) _).alloc (by simp; omega) _) (by omega) _
end Go.Proofs.YtlikinglgegclaaDoor
/- A tag of bytes, by a key that is used once. -/
namespace Go.Proofs.YtlikinglgegclaaDoor
open Go.RowKit Go.Cour
attribute [local go_sem] max2_int min2_int
def clampA (s : List Int) (n : Nat) : List Int := (List.range n).foldl (fun s i => s.set (4 * i + 3) (bits .and .u8 (rd s (4 * i + 3)) 15)) s
def clampB (s : List Int) (n : Nat) : List Int := (List.range n).foldl (fun s i => s.set (4 * i + 4) (bits .and .u8 (rd s (4 * i + 4)) 252)) s
def rbytes (key : List Int) : List Int := clampB (clampA (key.take 16 ++ [0]) 4) 3
theorem clampA_succ (s : List Int) (n : Nat) : clampA s (n + 1) = (clampA s n).set (4 * n + 3) (bits .and .u8 (rd (clampA s n) (4 * n + 3)) 15) := foldl_succ' _ _ _
theorem clampB_succ (s : List Int) (n : Nat) : clampB s (n + 1) = (clampB s n).set (4 * n + 4) (bits .and .u8 (rd (clampB s n) (4 * n + 4)) 252) := foldl_succ' _ _ _
theorem clampA_length (s : List Int) : ∀ n, (clampA s n).length = s.length
  | 0 => rfl
  | n + 1 => by rw [clampA_succ, List.length_set]; exact clampA_length s n
theorem clampB_length (s : List Int) : ∀ n, (clampB s n).length = s.length
  | 0 => rfl
  | n + 1 => by rw [clampB_succ, List.length_set]; exact clampB_length s n
/-- What the blocks of a call of Sum hold: the key, the tag, r. -/
structure SS (w wr : World) (key r : List Int) : Prop where
  k : Blk wr w.heap.size 27 (ints .u8 key)
  t : Blk wr (w.heap.size + 1) 125 (ints .u8 (List.replicate 16 0))
  r : Blk wr (w.heap.size + 1 + 1) 162 (ints .u8 r)
  below : Below w.heap.size w wr
  size : w.heap.size + 1 + 1 < wr.heap.size
theorem SS.set {w wr : World} {key r : List Int} (h : SS w wr key r) (i : Nat) (x : Int) : SS w (wr.setCell ⟨w.heap.size + 1 + 1, i, none⟩ (.int .u8 x)) key (r.set i x) :=
  ⟨h.k.setOther (by simp; try omega) _, h.t.setOther (by simp; try omega) _, h.r.setI i x, h.below.setCell (by simp; try omega) _, by simpa [World.setCell] using h.size⟩
theorem SS.row {w wr : World} {key r : List Int} (h : SS w wr key r) (r' : List Int) : SS w (wr.setRow (w.heap.size + 1 + 1) (ints .u8 r').toArray) key r' :=
  ⟨h.k.setRowOther (by omega) _, h.t.setRowOther (by omega) _, h.r.setRow _, below_setRow h.below (by omega) _, by simpa using h.size⟩
theorem SS.drew {w wr : World} {key r : List Int} (h : SS w wr key r) : SS w wr.drew key r := ⟨h.k.drew, h.t.drew, h.r.drew, h.below.drew, h.size⟩
/-- One block of bytes, with its one behind. -/
def blockOf (ys : List Int) : List Int := (ys.take (min ys.length 16) ++ (List.replicate 17 0).drop (min ys.length 16)).set (min ys.length 16) 1
theorem blockOf_length (ys : List Int) : (blockOf ys).length = 17 := by simp [blockOf]; omega
def addTo (s p : List Int) (n : Nat) : List Int := (List.range n).foldl (fun s i => s.set i (u64 (rd s i + rd p i))) s
def absorb (s p ys : List Int) : List Int := times (addTo s (parts (blockOf ys)) 5) p
def sumTo (p bs : List Int) (n : Nat) : List Int := (List.range n).foldl (fun s j => absorb s p (bs.drop (16 * j))) (List.replicate 5 0)
theorem addTo_succ (s p : List Int) (n : Nat) : addTo s p (n + 1) = (addTo s p n).set n (u64 (rd (addTo s p n) n + rd p n)) := foldl_succ' _ _ _
theorem addTo_length (s p : List Int) : ∀ n, (addTo s p n).length = s.length
  | 0 => rfl
  | n + 1 => by rw [addTo_succ, List.length_set]; exact addTo_length s p n
theorem sumTo_succ (p bs : List Int) (n : Nat) : sumTo p bs (n + 1) = absorb (sumTo p bs n) p (bs.drop (16 * n)) := foldl_succ' _ _ _
theorem sumTo_zero (p bs : List Int) : sumTo p bs 0 = List.replicate 5 0 := rfl
def sumOf (p bs : List Int) : List Int := sumTo p bs ((bs.length + 15) / 16)
def halfOf (l h : Int) (i : Nat) : Int := if 8 ≤ i then h else l
def ostep (l h : Int) (key : List Int) (s : List Int × Int) (i : Nat) : List Int × Int :=
  (s.1.set i (u64 (u64 (bits .and .u64 (halfOf l h i / 2 ^ (8 * (i % 8))) 255 + u64 (rd key (16 + i))) + s.2) % 256),
   u64 (u64 (bits .and .u64 (halfOf l h i / 2 ^ (8 * (i % 8))) 255 + u64 (rd key (16 + i))) + s.2) / 256)
def outS (l h : Int) (key : List Int) (n : Nat) : List Int × Int := (List.range n).foldl (ostep l h key) (List.replicate 16 0, 0)
theorem outS_succ (l h : Int) (key : List Int) (n : Nat) : outS l h key (n + 1) = ostep l h key (outS l h key n) n := foldl_succ' _ _ _
theorem outS_zero (l h : Int) (key : List Int) : outS l h key 0 = (List.replicate 16 0, 0) := rfl
theorem outS_length (l h : Int) (key : List Int) : ∀ n, (outS l h key n).1.length = 16
  | 0 => by simp [outS_zero]
  | n + 1 => by rw [outS_succ]; simp only [ostep, List.length_set]; exact outS_length l h key n
/-- The tag of bytes. -/
def polySum (key bs : List Int) : List Int :=
  (outS (lowL (lowA (sumOf (parts (rbytes key)) bs))) (lowH (lowA (sumOf (parts (rbytes key)) bs))) key 16).1
theorem polySum_length (key bs : List Int) : (polySum key bs).length = 16 := outS_length _ _ _ _
/-- What they hold while the tag is laid. -/
structure SO (w wr : World) (H : Nat) (key out : List Int) : Prop where
  k : Blk wr w.heap.size 27 (ints .u8 key)
  t : Blk wr (w.heap.size + 1) 125 (ints .u8 (List.replicate 16 0))
  o : Blk wr H 125 (ints .u8 out)
  below : Below w.heap.size w wr
  lt : w.heap.size + 1 < H
theorem SO.set {w wr : World} {H : Nat} {key out : List Int} (h : SO w wr H key out) (i : Nat) (x : Int) : SO w (wr.setCell ⟨H, i, none⟩ (.int .u8 x)) H key (out.set i x) := by
  have h2 := h.lt
  exact ⟨h.k.setOther (by simp; omega) _, h.t.setOther (by simp; omega) _, h.o.setI i x, h.below.setCell (by simp; omega) _, h2⟩
theorem SO.drewN {w wr : World} {H : Nat} {key out : List Int} (h : SO w wr H key out) (n : Nat) : SO w (wr.drewN n) H key out :=
  ⟨h.k.drewN n, h.t.drewN n, h.o.drewN n, below_drewN h.below n, h.lt⟩
/-- What they hold while the bytes are taken in. -/
structure SM (w wr : World) (G : Nat) (key p s : List Int) : Prop where
  k : Blk wr w.heap.size 27 (ints .u8 key)
  t : Blk wr (w.heap.size + 1) 125 (ints .u8 (List.replicate 16 0))
  p : Blk wr G 165 (ints .u64 p)
  s : Blk wr (G + 1) 165 (ints .u64 s)
  below : Below w.heap.size w wr
  lt : w.heap.size + 1 + 1 < G
  size : G + 1 < wr.heap.size
theorem SM.start {w wr wx : World} {key Z p : List Int} (h : SS w wr key Z) (hb : Below wr.heap.size wr wx) :
    SM w (((wx.alloc (.cells (ints .u64 (List.replicate 5 0)).toArray 165)).setRow wx.heap.size (ints .u64 p).toArray).alloc (.cells (ints .u64 (List.replicate 5 0)).toArray 165)) wx.heap.size key p (List.replicate 5 0) := by
  have h1 := h.size
  have h2 := hb.size
  refine ⟨?_, ?_, ?_, ?_, ?_, by omega, by simp⟩
  · exact (((h.k.belowAll hb).alloc _).setRowOther (by omega) _).alloc _
  · exact (((h.t.belowAll hb).alloc _).setRowOther (by omega) _).alloc _
  · exact ((Blk.new wx 165 _).setRow _).alloc _
  · exact Blk.new' _ 165 _ _ (by simp)
  · exact (below_setRow ((below_then h.below (by omega) hb).alloc (by omega) _) (by omega) _).alloc (by simp; omega) _
theorem SM.tmp {w wr : World} {G : Nat} {key p s : List Int} (h : SM w wr G key p s) (L : List Int) :
    SM w ((wr.alloc (.cells (ints .u8 (List.replicate 17 0)).toArray 162)).setRow wr.heap.size (ints .u8 L).toArray) G key p s := by
  have h1 := h.size
  have h2 := h.lt
  exact ⟨(h.k.alloc _).setRowOther (by omega) _, (h.t.alloc _).setRowOther (by omega) _, (h.p.alloc _).setRowOther (by omega) _, (h.s.alloc _).setRowOther (by omega) _, below_setRow (h.below.alloc (by omega) _) (by omega) _, h2, by simp; omega⟩
theorem SM.belowAll {w wr wx : World} {G : Nat} {key p s : List Int} (h : SM w wr G key p s) (hb : Below wr.heap.size wr wx) : SM w wx G key p s := by
  have h2 := h.lt
  have h3 := h.size
  have h4 := hb.size
  exact ⟨h.k.belowAll hb, h.t.belowAll hb, h.p.belowAll hb, h.s.belowAll hb, below_then h.below (by omega) hb, h2, by omega⟩
theorem SM.set {w wr : World} {G : Nat} {key p s : List Int} (h : SM w wr G key p s) (i : Nat) (x : Int) : SM w (wr.setCell ⟨G + 1, i, none⟩ (.int .u64 x)) G key p (s.set i x) := by
  have h2 := h.lt
  exact ⟨h.k.setOther (by simp; omega) _, h.t.setOther (by simp; omega) _, h.p.setOther (by simp) _, h.s.setI i x, h.below.setCell (by simp; omega) _, h2, by simpa [World.setCell] using h.size⟩
theorem SM.row {w wr : World} {G : Nat} {key p s : List Int} (h : SM w wr G key p s) (s' : List Int) : SM w (wr.setRow (G + 1) (ints .u64 s').toArray) G key p s' := by
  have h2 := h.lt
  exact ⟨h.k.setRowOther (by omega) _, h.t.setRowOther (by omega) _, h.p.setRowOther (by omega) _, h.s.setRow _, below_setRow h.below (by omega) _, h2, by simpa using h.size⟩
theorem SO.start {w wr wx : World} {G : Nat} {key p s : List Int} (h : SM w wr G key p s) (hb : Below wr.heap.size wr wx) : SO w (wx.alloc (.cells (ints .u8 (List.replicate 16 0)).toArray 125)) wx.heap.size key (List.replicate 16 0) := by
  have h1 := h.belowAll hb
  have h2 := h1.lt
  have h3 := h1.size
  exact ⟨h1.k.alloc _, h1.t.alloc _, Blk.new wx 125 _, h1.below.alloc (by omega) _, by omega⟩
end Go.Proofs.YtlikinglgegclaaDoor
/- The tag's numbers: five parts as one number: carry, product. -/
namespace Go.Proofs.YtlikinglgegclaaDoor
open Go.RowKit Go.Cour
/-- The modulus. -/
def pP : Int := 1361129467683753853853498429727072845819
/-- Five parts of 26 bits as one number. -/
def val5 (a : List Int) : Int := rd a 0 + rd a 1 * 67108864 + rd a 2 * 4503599627370496 + rd a 3 * 302231454903657293676544 + rd a 4 * 20282409603651670423947251286016
theorem u64_in (x : Int) (h : 0 ≤ x ∧ x < 18446744073709551616) : u64 x = x := by
  rw [u64, IntKind.wrap_u64]; omega
theorem list5 (a : List Int) (h : a.length = 5) : a = [rd a 0, rd a 1, rd a 2, rd a 3, rd a 4] := by
  match a, h with
  | [a0, a1, a2, a3, a4], _ => rfl
theorem carry1_0 (x0 x1 x2 x3 x4 o : Int) (h : 0 ≤ x0 + o ∧ x0 + o < 18446744073709551616) : carry1 ([x0, x1, x2, x3, x4], o) 0 = ([(x0 + o) % 67108864, x1, x2, x3, x4], (x0 + o) / 67108864) := by
  have h1 : carry1 ([x0, x1, x2, x3, x4], o) 0 = ([low26 (u64 (x0 + o)), x1, x2, x3, x4], u64 (x0 + o) / 67108864) := rfl
  rw [h1, u64_in _ h, low26_eq _ h.1 h.2]
theorem carry1_1 (x0 x1 x2 x3 x4 o : Int) (h : 0 ≤ x1 + o ∧ x1 + o < 18446744073709551616) : carry1 ([x0, x1, x2, x3, x4], o) 1 = ([x0, (x1 + o) % 67108864, x2, x3, x4], (x1 + o) / 67108864) := by
  have h1 : carry1 ([x0, x1, x2, x3, x4], o) 1 = ([x0, low26 (u64 (x1 + o)), x2, x3, x4], u64 (x1 + o) / 67108864) := rfl
  rw [h1, u64_in _ h, low26_eq _ h.1 h.2]
theorem carry1_2 (x0 x1 x2 x3 x4 o : Int) (h : 0 ≤ x2 + o ∧ x2 + o < 18446744073709551616) : carry1 ([x0, x1, x2, x3, x4], o) 2 = ([x0, x1, (x2 + o) % 67108864, x3, x4], (x2 + o) / 67108864) := by
  have h1 : carry1 ([x0, x1, x2, x3, x4], o) 2 = ([x0, x1, low26 (u64 (x2 + o)), x3, x4], u64 (x2 + o) / 67108864) := rfl
  rw [h1, u64_in _ h, low26_eq _ h.1 h.2]
theorem carry1_3 (x0 x1 x2 x3 x4 o : Int) (h : 0 ≤ x3 + o ∧ x3 + o < 18446744073709551616) : carry1 ([x0, x1, x2, x3, x4], o) 3 = ([x0, x1, x2, (x3 + o) % 67108864, x4], (x3 + o) / 67108864) := by
  have h1 : carry1 ([x0, x1, x2, x3, x4], o) 3 = ([x0, x1, x2, low26 (u64 (x3 + o)), x4], u64 (x3 + o) / 67108864) := rfl
  rw [h1, u64_in _ h, low26_eq _ h.1 h.2]
theorem carry1_4 (x0 x1 x2 x3 x4 o : Int) (h : 0 ≤ x4 + o ∧ x4 + o < 18446744073709551616) : carry1 ([x0, x1, x2, x3, x4], o) 4 = ([x0, x1, x2, x3, (x4 + o) % 67108864], (x4 + o) / 67108864) := by
  have h1 : carry1 ([x0, x1, x2, x3, x4], o) 4 = ([x0, x1, x2, x3, low26 (u64 (x4 + o))], u64 (x4 + o) / 67108864) := rfl
  rw [h1, u64_in _ h, low26_eq _ h.1 h.2]
/-- One round: the same number but for the modulus, smaller parts. -/
theorem carryRound_val (a : List Int) (hl : a.length = 5) (h : ∀ i, i < 5 → 0 ≤ rd a i ∧ rd a i < 4611686018427387904) :
    ∃ o : Int, 0 ≤ o ∧ val5 (carryRound a) = val5 a - o * pP ∧ (0 ≤ rd (carryRound a) 0 ∧ rd (carryRound a) 0 < 67108864 + 5 * o) ∧ (∀ i, 1 ≤ i → i < 5 → 0 ≤ rd (carryRound a) i ∧ rd (carryRound a) i < 67108864) ∧
      o * 67108864 ≤ rd a 4 + (rd a 3 + 137438953472) / 67108864 := by
  have h0 := h 0 (by omega)
  have h1 := h 1 (by omega)
  have h2 := h 2 (by omega)
  have h3 := h 3 (by omega)
  have h4 := h 4 (by omega)
  generalize ha0 : rd a 0 = a0 at *
  generalize ha1 : rd a 1 = a1 at *
  generalize ha2 : rd a 2 = a2 at *
  generalize ha3 : rd a 3 = a3 at *
  generalize ha4 : rd a 4 = a4 at *
  have ha : a = [a0, a1, a2, a3, a4] := by rw [list5 a hl, ha0, ha1, ha2, ha3, ha4]
  obtain ⟨o0, ho0⟩ : ∃ o, o = a0 / 67108864 := ⟨_, rfl⟩
  obtain ⟨o1, ho1⟩ : ∃ o, o = (a1 + o0) / 67108864 := ⟨_, rfl⟩
  obtain ⟨o2, ho2⟩ : ∃ o, o = (a2 + o1) / 67108864 := ⟨_, rfl⟩
  obtain ⟨o3, ho3⟩ : ∃ o, o = (a3 + o2) / 67108864 := ⟨_, rfl⟩
  obtain ⟨o4, ho4⟩ : ∃ o, o = (a4 + o3) / 67108864 := ⟨_, rfl⟩
  have hc : carryTo a 5 = ([a0 % 67108864, (a1 + o0) % 67108864, (a2 + o1) % 67108864, (a3 + o2) % 67108864, (a4 + o3) % 67108864], o4) := by
    have e : carryTo a 5 = carry1 (carry1 (carry1 (carry1 (carry1 (a, 0) 0) 1) 2) 3) 4 := rfl
    rw [e, ha, carry1_0 _ _ _ _ _ _ (by omega), Int.add_zero, ← ho0, carry1_1 _ _ _ _ _ _ (by omega), ← ho1, carry1_2 _ _ _ _ _ _ (by omega), ← ho2, carry1_3 _ _ _ _ _ _ (by omega), ← ho3, carry1_4 _ _ _ _ _ _ (by omega), ← ho4]
  have hr : carryRound a = [a0 % 67108864 + 5 * o4, (a1 + o0) % 67108864, (a2 + o1) % 67108864, (a3 + o2) % 67108864, (a4 + o3) % 67108864] := by
    unfold carryRound
    rw [hc]
    have e : ∀ x, ([a0 % 67108864, (a1 + o0) % 67108864, (a2 + o1) % 67108864, (a3 + o2) % 67108864, (a4 + o3) % 67108864] : List Int).set 0 x = [x, (a1 + o0) % 67108864, (a2 + o1) % 67108864, (a3 + o2) % 67108864, (a4 + o3) % 67108864] := fun x => rfl
    have e0 : rd ([a0 % 67108864, (a1 + o0) % 67108864, (a2 + o1) % 67108864, (a3 + o2) % 67108864, (a4 + o3) % 67108864] : List Int) 0 = a0 % 67108864 := rfl
    rw [e, e0, u64_in (5 * o4) (by omega), u64_in _ (by omega)]
  have r0 : rd (carryRound a) 0 = a0 % 67108864 + 5 * o4 := by rw [hr]; rfl
  have r1 : rd (carryRound a) 1 = (a1 + o0) % 67108864 := by rw [hr]; rfl
  have r2 : rd (carryRound a) 2 = (a2 + o1) % 67108864 := by rw [hr]; rfl
  have r3 : rd (carryRound a) 3 = (a3 + o2) % 67108864 := by rw [hr]; rfl
  have r4 : rd (carryRound a) 4 = (a4 + o3) % 67108864 := by rw [hr]; rfl
  refine ⟨o4, by omega, ?_, by rw [r0]; omega, fun i hi hi5 => ?_, by omega⟩
  · unfold val5 pP
    rw [r0, r1, r2, r3, r4, ha0, ha1, ha2, ha3, ha4]
    omega
  · have hh : i = 1 ∨ i = 2 ∨ i = 3 ∨ i = 4 := by omega
    rcases hh with rfl | rfl | rfl | rfl
    · rw [r1]; omega
    · rw [r2]; omega
    · rw [r3]; omega
    · rw [r4]; omega
end Go.Proofs.YtlikinglgegclaaDoor
/- The tag's numbers: carried twice; a product. -/
namespace Go.Proofs.YtlikinglgegclaaDoor
open Go.RowKit Go.Cour
/-- Parts that are nearly carried: the first may be a little too much. -/
structure Near (a : List Int) : Prop where
  len : a.length = 5
  lo : 0 ≤ rd a 0 ∧ rd a 0 < 67108869
  hi : ∀ i, 1 ≤ i → i < 5 → 0 ≤ rd a i ∧ rd a i < 67108864
theorem carry2_val (a : List Int) (hl : a.length = 5) (h : ∀ i, i < 5 → 0 ≤ rd a i ∧ rd a i < 4611686018427387904) :
    (∃ o : Int, 0 ≤ o ∧ val5 (carryN a 2) = val5 a - o * pP) ∧ Near (carryN a 2) := by
  have e : carryN a 2 = carryRound (carryRound a) := (carryN_succ a 1).trans (congrArg carryRound ((carryN_succ a 0).trans (congrArg carryRound (carryN_zero a))))
  obtain ⟨o, ho, hv, hb0, hb, hob⟩ := carryRound_val a hl h
  have h3 := h 3 (by omega)
  have h4 := h 4 (by omega)
  have hb1 := hb 1 (by omega) (by omega)
  have hb2 := hb 2 (by omega) (by omega)
  have hb3 := hb 3 (by omega) (by omega)
  have hb4 := hb 4 (by omega) (by omega)
  have hl1 := carryRound_length a
  obtain ⟨o', ho', hv', hb0', hb', hob'⟩ := carryRound_val (carryRound a) (by rw [hl1, hl]) (fun i hi => by
    have hh : i = 0 ∨ i = 1 ∨ i = 2 ∨ i = 3 ∨ i = 4 := by omega
    rcases hh with rfl | rfl | rfl | rfl | rfl <;> omega)
  rw [e]
  refine ⟨⟨o + o', by omega, by rw [hv', hv, Int.add_mul]; omega⟩, by rw [carryRound_length, hl1, hl], ?_, hb'⟩
  have : o' ≤ 1 := by omega
  omega
theorem toutTo_raw (a0 a1 a2 a3 a4 b0 b1 b2 b3 b4 : Int) : toutTo [a0, a1, a2, a3, a4] [b0, b1, b2, b3, b4] 5 = [u64 (u64 (u64 (u64 (u64 (0 + u64 (a0 * b0)) + u64 (u64 (a1 * b4) * 5)) + u64 (u64 (a2 * b3) * 5)) + u64 (u64 (a3 * b2) * 5)) + u64 (u64 (a4 * b1) * 5)),
    u64 (u64 (u64 (u64 (u64 (0 + u64 (a0 * b1)) + u64 (a1 * b0)) + u64 (u64 (a2 * b4) * 5)) + u64 (u64 (a3 * b3) * 5)) + u64 (u64 (a4 * b2) * 5)),
    u64 (u64 (u64 (u64 (u64 (0 + u64 (a0 * b2)) + u64 (a1 * b1)) + u64 (a2 * b0)) + u64 (u64 (a3 * b4) * 5)) + u64 (u64 (a4 * b3) * 5)),
    u64 (u64 (u64 (u64 (u64 (0 + u64 (a0 * b3)) + u64 (a1 * b2)) + u64 (a2 * b1)) + u64 (a3 * b0)) + u64 (u64 (a4 * b4) * 5)),
    u64 (u64 (u64 (u64 (u64 (0 + u64 (a0 * b4)) + u64 (a1 * b3)) + u64 (a2 * b2)) + u64 (a3 * b1)) + u64 (a4 * b0))] := by kernel_rfl
/-- Ten products' sum, each step of 64 bits: no step is too much. -/
theorem five_u64 (x0 x1 x2 x3 x4 : Int) (h0 : 0 ≤ x0 ∧ x0 < 288230376151711744) (h1 : 0 ≤ x1 ∧ x1 < 288230376151711744) (h2 : 0 ≤ x2 ∧ x2 < 288230376151711744) (h3 : 0 ≤ x3 ∧ x3 < 288230376151711744) (h4 : 0 ≤ x4 ∧ x4 < 288230376151711744) :
    u64 (u64 (u64 (u64 (u64 (0 + x0) + x1) + x2) + x3) + x4) = x0 + x1 + x2 + x3 + x4 := by
  rw [u64_in (0 + x0) (by omega), u64_in (0 + x0 + x1) (by omega), u64_in (0 + x0 + x1 + x2) (by omega), u64_in (0 + x0 + x1 + x2 + x3) (by omega), u64_in _ (by omega)]
  omega
theorem prod_in (a b : Int) (ha : 0 ≤ a ∧ a < 268435456) (hb : 0 ≤ b ∧ b < 134217728) : 0 ≤ a * b ∧ a * b < 36028797018963968 := by
  refine ⟨Int.mul_nonneg ha.1 hb.1, ?_⟩
  have h1 : a * b ≤ 268435455 * b := Int.mul_le_mul_of_nonneg_right (by omega) hb.1
  omega
theorem prod1 (a b : Int) (ha : 0 ≤ a ∧ a < 268435456) (hb : 0 ≤ b ∧ b < 134217728) : u64 (a * b) = a * b := by
  have := prod_in a b ha hb
  exact u64_in _ (by omega)
theorem prod5 (a b : Int) (ha : 0 ≤ a ∧ a < 268435456) (hb : 0 ≤ b ∧ b < 134217728) : u64 (u64 (a * b) * 5) = a * b * 5 := by
  have := prod_in a b ha hb
  rw [prod1 a b ha hb]
  exact u64_in _ (by omega)
theorem toutTo_eq (a0 a1 a2 a3 a4 b0 b1 b2 b3 b4 : Int) (ha0 : 0 ≤ a0 ∧ a0 < 268435456) (ha1 : 0 ≤ a1 ∧ a1 < 268435456) (ha2 : 0 ≤ a2 ∧ a2 < 268435456) (ha3 : 0 ≤ a3 ∧ a3 < 268435456) (ha4 : 0 ≤ a4 ∧ a4 < 268435456) (hb0 : 0 ≤ b0 ∧ b0 < 134217728) (hb1 : 0 ≤ b1 ∧ b1 < 134217728) (hb2 : 0 ≤ b2 ∧ b2 < 134217728) (hb3 : 0 ≤ b3 ∧ b3 < 134217728) (hb4 : 0 ≤ b4 ∧ b4 < 134217728) : toutTo [a0, a1, a2, a3, a4] [b0, b1, b2, b3, b4] 5 = [a0 * b0 + a1 * b4 * 5 + a2 * b3 * 5 + a3 * b2 * 5 + a4 * b1 * 5, a0 * b1 + a1 * b0 + a2 * b4 * 5 + a3 * b3 * 5 + a4 * b2 * 5, a0 * b2 + a1 * b1 + a2 * b0 + a3 * b4 * 5 + a4 * b3 * 5, a0 * b3 + a1 * b2 + a2 * b1 + a3 * b0 + a4 * b4 * 5, a0 * b4 + a1 * b3 + a2 * b2 + a3 * b1 + a4 * b0] := by
  rw [toutTo_raw]
  have p00 := prod_in a0 b0 ha0 hb0
  have p01 := prod_in a0 b1 ha0 hb1
  have p02 := prod_in a0 b2 ha0 hb2
  have p03 := prod_in a0 b3 ha0 hb3
  have p04 := prod_in a0 b4 ha0 hb4
  have p10 := prod_in a1 b0 ha1 hb0
  have p11 := prod_in a1 b1 ha1 hb1
  have p12 := prod_in a1 b2 ha1 hb2
  have p13 := prod_in a1 b3 ha1 hb3
  have p14 := prod_in a1 b4 ha1 hb4
  have p20 := prod_in a2 b0 ha2 hb0
  have p21 := prod_in a2 b1 ha2 hb1
  have p22 := prod_in a2 b2 ha2 hb2
  have p23 := prod_in a2 b3 ha2 hb3
  have p24 := prod_in a2 b4 ha2 hb4
  have p30 := prod_in a3 b0 ha3 hb0
  have p31 := prod_in a3 b1 ha3 hb1
  have p32 := prod_in a3 b2 ha3 hb2
  have p33 := prod_in a3 b3 ha3 hb3
  have p34 := prod_in a3 b4 ha3 hb4
  have p40 := prod_in a4 b0 ha4 hb0
  have p41 := prod_in a4 b1 ha4 hb1
  have p42 := prod_in a4 b2 ha4 hb2
  have p43 := prod_in a4 b3 ha4 hb3
  have p44 := prod_in a4 b4 ha4 hb4
  rw [prod1 a0 b0 ha0 hb0, prod1 a0 b1 ha0 hb1, prod1 a0 b2 ha0 hb2, prod1 a0 b3 ha0 hb3, prod1 a0 b4 ha0 hb4, prod1 a1 b0 ha1 hb0, prod1 a1 b1 ha1 hb1, prod1 a1 b2 ha1 hb2, prod1 a1 b3 ha1 hb3, prod5 a1 b4 ha1 hb4, prod1 a2 b0 ha2 hb0, prod1 a2 b1 ha2 hb1, prod1 a2 b2 ha2 hb2, prod5 a2 b3 ha2 hb3, prod5 a2 b4 ha2 hb4, prod1 a3 b0 ha3 hb0, prod1 a3 b1 ha3 hb1, prod5 a3 b2 ha3 hb2, prod5 a3 b3 ha3 hb3, prod5 a3 b4 ha3 hb4, prod1 a4 b0 ha4 hb0, prod5 a4 b1 ha4 hb1, prod5 a4 b2 ha4 hb2, prod5 a4 b3 ha4 hb3, prod5 a4 b4 ha4 hb4]
  generalize a0 * b0 = t00 at *
  generalize a0 * b1 = t01 at *
  generalize a0 * b2 = t02 at *
  generalize a0 * b3 = t03 at *
  generalize a0 * b4 = t04 at *
  generalize a1 * b0 = t10 at *
  generalize a1 * b1 = t11 at *
  generalize a1 * b2 = t12 at *
  generalize a1 * b3 = t13 at *
  generalize a1 * b4 = t14 at *
  generalize a2 * b0 = t20 at *
  generalize a2 * b1 = t21 at *
  generalize a2 * b2 = t22 at *
  generalize a2 * b3 = t23 at *
  generalize a2 * b4 = t24 at *
  generalize a3 * b0 = t30 at *
  generalize a3 * b1 = t31 at *
  generalize a3 * b2 = t32 at *
  generalize a3 * b3 = t33 at *
  generalize a3 * b4 = t34 at *
  generalize a4 * b0 = t40 at *
  generalize a4 * b1 = t41 at *
  generalize a4 * b2 = t42 at *
  generalize a4 * b3 = t43 at *
  generalize a4 * b4 = t44 at *
  rw [five_u64 _ _ _ _ _ (by omega) (by omega) (by omega) (by omega) (by omega), five_u64 _ _ _ _ _ (by omega) (by omega) (by omega) (by omega) (by omega), five_u64 _ _ _ _ _ (by omega) (by omega) (by omega) (by omega) (by omega), five_u64 _ _ _ _ _ (by omega) (by omega) (by omega) (by omega) (by omega), five_u64 _ _ _ _ _ (by omega) (by omega) (by omega) (by omega) (by omega)]
theorem times_num (a0 a1 a2 a3 a4 b0 b1 b2 b3 b4 : Int) : (a0 + a1 * 67108864 + a2 * 4503599627370496 + a3 * 302231454903657293676544 + a4 * 20282409603651670423947251286016) * (b0 + b1 * 67108864 + b2 * 4503599627370496 + b3 * 302231454903657293676544 + b4 * 20282409603651670423947251286016) = ((a0 * b0 + a1 * b4 * 5 + a2 * b3 * 5 + a3 * b2 * 5 + a4 * b1 * 5) + (a0 * b1 + a1 * b0 + a2 * b4 * 5 + a3 * b3 * 5 + a4 * b2 * 5) * 67108864 + (a0 * b2 + a1 * b1 + a2 * b0 + a3 * b4 * 5 + a4 * b3 * 5) * 4503599627370496 + (a0 * b3 + a1 * b2 + a2 * b1 + a3 * b0 + a4 * b4 * 5) * 302231454903657293676544 + (a0 * b4 + a1 * b3 + a2 * b2 + a3 * b1 + a4 * b0) * 20282409603651670423947251286016) + (a1 * b4 + a2 * b3 + a2 * b4 * 67108864 + a3 * b2 + a3 * b3 * 67108864 + a3 * b4 * 4503599627370496 + a4 * b1 + a4 * b2 * 67108864 + a4 * b3 * 4503599627370496 + a4 * b4 * 302231454903657293676544) * 1361129467683753853853498429727072845819 := by
  grind
theorem times_val (a b : List Int) (hla : a.length = 5) (hlb : b.length = 5) (ha : ∀ i, i < 5 → 0 ≤ rd a i ∧ rd a i < 268435456) (hb : ∀ i, i < 5 → 0 ≤ rd b i ∧ rd b i < 134217728) :
    (∃ o : Int, val5 (times a b) = val5 a * val5 b - o * pP) ∧ Near (times a b) := by
  have ha0 := ha 0 (by omega)
  have hb0 := hb 0 (by omega)
  have ha1 := ha 1 (by omega)
  have hb1 := hb 1 (by omega)
  have ha2 := ha 2 (by omega)
  have hb2 := hb 2 (by omega)
  have ha3 := ha 3 (by omega)
  have hb3 := hb 3 (by omega)
  have ha4 := ha 4 (by omega)
  have hb4 := hb 4 (by omega)
  have ea := list5 a hla
  have eb := list5 b hlb
  generalize ra0 : rd a 0 = a0 at *
  generalize rb0 : rd b 0 = b0 at *
  generalize ra1 : rd a 1 = a1 at *
  generalize rb1 : rd b 1 = b1 at *
  generalize ra2 : rd a 2 = a2 at *
  generalize rb2 : rd b 2 = b2 at *
  generalize ra3 : rd a 3 = a3 at *
  generalize rb3 : rd b 3 = b3 at *
  generalize ra4 : rd a 4 = a4 at *
  generalize rb4 : rd b 4 = b4 at *
  have ho := toutTo_eq a0 a1 a2 a3 a4 b0 b1 b2 b3 b4 ha0 ha1 ha2 ha3 ha4 hb0 hb1 hb2 hb3 hb4
  rw [← ea, ← eb] at ho
  have hn := times_num a0 a1 a2 a3 a4 b0 b1 b2 b3 b4
  have p00 := prod_in a0 b0 ha0 hb0
  have p01 := prod_in a0 b1 ha0 hb1
  have p02 := prod_in a0 b2 ha0 hb2
  have p03 := prod_in a0 b3 ha0 hb3
  have p04 := prod_in a0 b4 ha0 hb4
  have p10 := prod_in a1 b0 ha1 hb0
  have p11 := prod_in a1 b1 ha1 hb1
  have p12 := prod_in a1 b2 ha1 hb2
  have p13 := prod_in a1 b3 ha1 hb3
  have p14 := prod_in a1 b4 ha1 hb4
  have p20 := prod_in a2 b0 ha2 hb0
  have p21 := prod_in a2 b1 ha2 hb1
  have p22 := prod_in a2 b2 ha2 hb2
  have p23 := prod_in a2 b3 ha2 hb3
  have p24 := prod_in a2 b4 ha2 hb4
  have p30 := prod_in a3 b0 ha3 hb0
  have p31 := prod_in a3 b1 ha3 hb1
  have p32 := prod_in a3 b2 ha3 hb2
  have p33 := prod_in a3 b3 ha3 hb3
  have p34 := prod_in a3 b4 ha3 hb4
  have p40 := prod_in a4 b0 ha4 hb0
  have p41 := prod_in a4 b1 ha4 hb1
  have p42 := prod_in a4 b2 ha4 hb2
  have p43 := prod_in a4 b3 ha4 hb3
  have p44 := prod_in a4 b4 ha4 hb4
  have hva : val5 a = a0 + a1 * 67108864 + a2 * 4503599627370496 + a3 * 302231454903657293676544 + a4 * 20282409603651670423947251286016 := by unfold val5; rw [ra0, ra1, ra2, ra3, ra4]
  have hvb : val5 b = b0 + b1 * 67108864 + b2 * 4503599627370496 + b3 * 302231454903657293676544 + b4 * 20282409603651670423947251286016 := by unfold val5; rw [rb0, rb1, rb2, rb3, rb4]
  rw [← hva, ← hvb] at hn
  clear hva hvb ea eb ha hb
  generalize a0 * b0 = t00 at *
  generalize a0 * b1 = t01 at *
  generalize a0 * b2 = t02 at *
  generalize a0 * b3 = t03 at *
  generalize a0 * b4 = t04 at *
  generalize a1 * b0 = t10 at *
  generalize a1 * b1 = t11 at *
  generalize a1 * b2 = t12 at *
  generalize a1 * b3 = t13 at *
  generalize a1 * b4 = t14 at *
  generalize a2 * b0 = t20 at *
  generalize a2 * b1 = t21 at *
  generalize a2 * b2 = t22 at *
  generalize a2 * b3 = t23 at *
  generalize a2 * b4 = t24 at *
  generalize a3 * b0 = t30 at *
  generalize a3 * b1 = t31 at *
  generalize a3 * b2 = t32 at *
  generalize a3 * b3 = t33 at *
  generalize a3 * b4 = t34 at *
  generalize a4 * b0 = t40 at *
  generalize a4 * b1 = t41 at *
  generalize a4 * b2 = t42 at *
  generalize a4 * b3 = t43 at *
  generalize a4 * b4 = t44 at *
  obtain ⟨x0, hx0⟩ : ∃ x, x = t00 + t14 * 5 + t23 * 5 + t32 * 5 + t41 * 5 := ⟨_, rfl⟩
  obtain ⟨x1, hx1⟩ : ∃ x, x = t01 + t10 + t24 * 5 + t33 * 5 + t42 * 5 := ⟨_, rfl⟩
  obtain ⟨x2, hx2⟩ : ∃ x, x = t02 + t11 + t20 + t34 * 5 + t43 * 5 := ⟨_, rfl⟩
  obtain ⟨x3, hx3⟩ : ∃ x, x = t03 + t12 + t21 + t30 + t44 * 5 := ⟨_, rfl⟩
  obtain ⟨x4, hx4⟩ : ∃ x, x = t04 + t13 + t22 + t31 + t40 := ⟨_, rfl⟩
  rw [← hx0, ← hx1, ← hx2, ← hx3, ← hx4] at ho hn
  have hbx : ∀ i, i < 5 → 0 ≤ rd (toutTo a b 5) i ∧ rd (toutTo a b 5) i < 4611686018427387904 := fun i hi => by
    have hh : i = 0 ∨ i = 1 ∨ i = 2 ∨ i = 3 ∨ i = 4 := by omega
    rw [ho]
    rcases hh with rfl | rfl | rfl | rfl | rfl
    · show 0 ≤ x0 ∧ x0 < 4611686018427387904; omega
    · show 0 ≤ x1 ∧ x1 < 4611686018427387904; omega
    · show 0 ≤ x2 ∧ x2 < 4611686018427387904; omega
    · show 0 ≤ x3 ∧ x3 < 4611686018427387904; omega
    · show 0 ≤ x4 ∧ x4 < 4611686018427387904; omega
  obtain ⟨⟨o, ho0, hov⟩, hnear⟩ := carry2_val (toutTo a b 5) (toutTo_length a b 5) hbx
  have hvo : val5 (toutTo a b 5) = x0 + x1 * 67108864 + x2 * 4503599627370496 + x3 * 302231454903657293676544 + x4 * 20282409603651670423947251286016 := by rw [ho]; rfl
  refine ⟨⟨o + (t14 + t23 + t24 * 67108864 + t32 + t33 * 67108864 + t34 * 4503599627370496 + t41 + t42 * 67108864 + t43 * 4503599627370496 + t44 * 302231454903657293676544), ?_⟩, hnear⟩
  have e : times a b = carryN (toutTo a b 5) 2 := rfl
  rw [e, hov, hn, Int.add_mul, hvo]
  unfold pP
  omega
end Go.Proofs.YtlikinglgegclaaDoor
/- The tag's numbers: seventeen bytes as five parts. -/
namespace Go.Proofs.YtlikinglgegclaaDoor
open Go.RowKit Go.Cour
/-- Bytes as a number, the least first. -/
def valB (b : List Int) : Nat → Int
  | 0 => 0
  | n + 1 => valB b n + rd b n * 2 ^ (8 * n)
/-- Bit i of bytes. -/
def bitB (b : List Int) (i : Nat) : Int := rd b (i / 8) / 2 ^ (i % 8) % 2
def sumB (b : List Int) : Nat → Int
  | 0 => 0
  | n + 1 => sumB b n + bitB b n * 2 ^ n
theorem bitB_in (b : List Int) (i : Nat) : 0 ≤ bitB b i ∧ bitB b i < 2 := ⟨Int.emod_nonneg _ (by decide), Int.emod_lt_of_pos _ (by decide)⟩
theorem sumB_byte (b : List Int) (h : ∀ i, 0 ≤ rd b i ∧ rd b i < 256) (j : Nat) : sumB b (8 * j + 8) = sumB b (8 * j) + rd b j * 2 ^ (8 * j) := by
  have e : ∀ t, t < 8 → bitB b (8 * j + t) = rd b j / 2 ^ t % 2 := fun t ht => by
    unfold bitB
    rw [show (8 * j + t) / 8 = j by omega, show (8 * j + t) % 8 = t by omega]
  have hs : sumB b (8 * j + 8) = sumB b (8 * j) + bitB b (8 * j + 0) * 2 ^ (8 * j + 0) + bitB b (8 * j + 1) * 2 ^ (8 * j + 1) + bitB b (8 * j + 2) * 2 ^ (8 * j + 2) + bitB b (8 * j + 3) * 2 ^ (8 * j + 3) + bitB b (8 * j + 4) * 2 ^ (8 * j + 4) + bitB b (8 * j + 5) * 2 ^ (8 * j + 5) + bitB b (8 * j + 6) * 2 ^ (8 * j + 6) + bitB b (8 * j + 7) * 2 ^ (8 * j + 7) := rfl
  rw [hs, e 0 (by omega), e 1 (by omega), e 2 (by omega), e 3 (by omega), e 4 (by omega), e 5 (by omega), e 6 (by omega), e 7 (by omega)]
  simp only [Int.pow_add]
  have hx := h j
  generalize rd b j = x at *
  generalize (2 : Int) ^ (8 * j) = p at *
  generalize sumB b (8 * j) = s at *
  have hb : x = x / 2 ^ 0 % 2 + 2 * (x / 2 ^ 1 % 2) + 4 * (x / 2 ^ 2 % 2) + 8 * (x / 2 ^ 3 % 2) + 16 * (x / 2 ^ 4 % 2) + 32 * (x / 2 ^ 5 % 2) + 64 * (x / 2 ^ 6 % 2) + 128 * (x / 2 ^ 7 % 2) := by
    have e1 : (2 : Int) ^ 0 = 1 := rfl
    have e2 : (2 : Int) ^ 1 = 2 := rfl
    have e3 : (2 : Int) ^ 2 = 4 := rfl
    have e4 : (2 : Int) ^ 3 = 8 := rfl
    have e5 : (2 : Int) ^ 4 = 16 := rfl
    have e6 : (2 : Int) ^ 5 = 32 := rfl
    have e7 : (2 : Int) ^ 6 = 64 := rfl
    have e8 : (2 : Int) ^ 7 = 128 := rfl
    rw [e1, e2, e3, e4, e5, e6, e7, e8]
    omega
  generalize x / 2 ^ 0 % 2 = c0 at *
  generalize x / 2 ^ 1 % 2 = c1 at *
  generalize x / 2 ^ 2 % 2 = c2 at *
  generalize x / 2 ^ 3 % 2 = c3 at *
  generalize x / 2 ^ 4 % 2 = c4 at *
  generalize x / 2 ^ 5 % 2 = c5 at *
  generalize x / 2 ^ 6 % 2 = c6 at *
  generalize x / 2 ^ 7 % 2 = c7 at *
  rw [hb]
  grind
theorem sumB_valB (b : List Int) (h : ∀ i, 0 ≤ rd b i ∧ rd b i < 256) : ∀ j, sumB b (8 * j) = valB b j
  | 0 => rfl
  | j + 1 => by
    rw [show 8 * (j + 1) = 8 * j + 8 by omega, sumB_byte b h j, sumB_valB b h j]
    rfl
/-- Part k of the first n bits. -/
def dig (b : List Int) : Nat → Nat → Int
  | 0, _ => 0
  | n + 1, k => dig b n k + (if min (n / 26) 4 = k then bitB b n * 2 ^ (n - 26 * k) else 0)
theorem dig_in (b : List Int) (k : Nat) : ∀ n, 0 ≤ dig b n k ∧ dig b n k < 2 ^ (n - 26 * k)
  | 0 => by
    have : (0 : Int) < 2 ^ (0 - 26 * k) := Int.pow_pos (by decide)
    exact ⟨Int.le_refl _, this⟩
  | n + 1 => by
    have ih := dig_in b k n
    have hb := bitB_in b n
    unfold dig
    split
    · rename_i hk
      have hn : 26 * k ≤ n := by omega
      have e : n + 1 - 26 * k = (n - 26 * k) + 1 := by omega
      rw [e, Int.pow_succ]
      have hp : (0 : Int) < 2 ^ (n - 26 * k) := Int.pow_pos (by decide)
      generalize (2 : Int) ^ (n - 26 * k) = p at *
      have hc : bitB b n = 0 ∨ bitB b n = 1 := by omega
      rcases hc with hc | hc <;> rw [hc] <;> omega
    · have hp : (2 : Int) ^ (n - 26 * k) ≤ 2 ^ (n + 1 - 26 * k) := by
        have h1 : (2 : Nat) ^ (n - 26 * k) ≤ 2 ^ (n + 1 - 26 * k) := Nat.pow_le_pow_right (by decide) (by omega)
        exact_mod_cast h1
      omega
theorem dig_sum (b : List Int) : ∀ n, dig b n 0 + dig b n 1 * 2 ^ 26 + dig b n 2 * 2 ^ 52 + dig b n 3 * 2 ^ 78 + dig b n 4 * 2 ^ 104 = sumB b n
  | 0 => by simp [dig, sumB]
  | n + 1 => by
    have ih := dig_sum b n
    unfold sumB
    rw [← ih]
    have hk : min (n / 26) 4 = 0 ∨ min (n / 26) 4 = 1 ∨ min (n / 26) 4 = 2 ∨ min (n / 26) 4 = 3 ∨ min (n / 26) 4 = 4 := by omega
    have hp : ∀ k, 26 * k ≤ n → (2 : Int) ^ n = 2 ^ (n - 26 * k) * 2 ^ (26 * k) := fun k h => by rw [← Int.pow_add]; congr 1; omega
    rcases hk with h | h | h | h | h
    · have := hp 0 (by omega)
      simp only [dig, h, if_true]
      rw [this]
      simp
      omega
    · have := hp 1 (by omega)
      simp [dig, h]
      rw [this]
      grind
    · have := hp 2 (by omega)
      simp [dig, h]
      rw [this]
      grind
    · have := hp 3 (by omega)
      simp [dig, h]
      rw [this]
      grind
    · have := hp 4 (by omega)
      simp [dig, h]
      rw [this]
      grind
end Go.Proofs.YtlikinglgegclaaDoor
/- The tag's numbers: the parts of seventeen bytes; what is taken in. -/
namespace Go.Proofs.YtlikinglgegclaaDoor
open Go.RowKit Go.Cour
/-- No more bits than a part has. -/
theorem dig_cap (b : List Int) (k : Nat) (hk4 : k < 4) : ∀ n, dig b n k < 2 ^ (min n (26 * (k + 1)) - 26 * k)
  | 0 => by
    have : (0 : Int) < 2 ^ (min 0 (26 * (k + 1)) - 26 * k) := Int.pow_pos (by decide)
    exact this
  | n + 1 => by
    by_cases hk : min (n / 26) 4 = k
    · have h := (dig_in b k (n + 1)).2
      rw [show min (n + 1) (26 * (k + 1)) = n + 1 by omega]
      exact h
    · have ih := dig_cap b k hk4 n
      have e : dig b (n + 1) k = dig b n k := by simp [dig, hk]
      rw [e]
      have hp : (2 : Int) ^ (min n (26 * (k + 1)) - 26 * k) ≤ 2 ^ (min (n + 1) (26 * (k + 1)) - 26 * k) := by
        have h1 : (2 : Nat) ^ (min n (26 * (k + 1)) - 26 * k) ≤ 2 ^ (min (n + 1) (26 * (k + 1)) - 26 * k) := Nat.pow_le_pow_right (by decide) (by omega)
        exact_mod_cast h1
      omega
theorem and1_u8 (x : Int) (h0 : 0 ≤ x) (h1 : x < 256) : bits .and .u8 x 1 = x % 2 :=
  bits_mask .u8 8 (by decide) (fun n h0 h1 => by rw [IntKind.wrap_u8]; omega) 1 (by decide) x h0 (by simpa using h1)
theorem pbit_num (b : List Int) (h : ∀ i, 0 ≤ rd b i ∧ rd b i < 256) (i : Nat) (hi : i < 136) : pbit b i = bitB b i * 2 ^ (i - 26 * min (i / 26) 4) := by
  have hx := h (i / 8)
  have hd : 0 ≤ rd b (i / 8) / 2 ^ (i % 8) ∧ rd b (i / 8) / 2 ^ (i % 8) < 256 := by
    have hp : (0 : Int) < 2 ^ (i % 8) := Int.pow_pos (by decide)
    refine ⟨Int.ediv_nonneg hx.1 (by omega), ?_⟩
    have := Int.ediv_le_self (2 ^ (i % 8)) hx.1
    omega
  have hb := bitB_in b i
  unfold pbit
  rw [and1_u8 _ hd.1 hd.2]
  change u64 (u64 (bitB b i) * 2 ^ (i - 26 * min (i / 26) 4)) = _
  have hs : i - 26 * min (i / 26) 4 ≤ 31 := by omega
  generalize i - 26 * min (i / 26) 4 = s at *
  have hp1 : (2 : Int) ^ s ≤ 2147483648 := by
    have h1 : (2 : Nat) ^ s ≤ 2147483648 := Nat.le_trans (Nat.pow_le_pow_right (by decide) hs) (Nat.le_refl (2 ^ 31))
    have h2 : (2 : Int) ^ s = ((2 ^ s : Nat) : Int) := by simp
    omega
  have hp0 : (0 : Int) < 2 ^ s := Int.pow_pos (by decide)
  rw [u64_in (bitB b i) (by omega)]
  have hc : bitB b i = 0 ∨ bitB b i = 1 := by omega
  rcases hc with hc | hc <;> rw [hc]
  · rw [Int.zero_mul]; rfl
  · rw [Int.one_mul, u64_in _ (by omega)]
theorem or_add (L t : Int) (s : Nat) (hL : 0 ≤ L ∧ L < 2 ^ s) (ht : t = 0 ∨ t = 1) (hs : s ≤ 40) : bits .or .u64 L (t * 2 ^ s) = L + t * 2 ^ s := by
  obtain ⟨a, rfl⟩ : ∃ a : Nat, L = (a : Int) := ⟨L.toNat, by omega⟩
  obtain ⟨u, rfl⟩ : ∃ u : Nat, t = (u : Int) := ⟨t.toNat, by omega⟩
  have ha : a < 2 ^ s := by exact_mod_cast hL.2
  have hp : (2 : Nat) ^ s ≤ 2 ^ 40 := Nat.pow_le_pow_right (by decide) hs
  have e : ((u : Int) * 2 ^ s) = ((2 ^ s * u : Nat) : Int) := by rw [Nat.mul_comm]; simp
  have hu : u = 0 ∨ u = 1 := by omega
  have hb : 2 ^ s * u < 18446744073709551616 := by
    rcases hu with rfl | rfl
    · simp
    · rw [Nat.mul_one]; omega
  rw [e, bits_or_u64_nat a _ (by omega) hb, Nat.or_comm, ← Nat.two_pow_add_eq_or_of_lt ha]
  omega
theorem partsTo_rd (b : List Int) (h : ∀ i, 0 ≤ rd b i ∧ rd b i < 256) (k : Nat) (hk5 : k < 5) : ∀ n, n ≤ 136 → rd (partsTo b n) k = dig b n k
  | 0, _ => by
    have hk : k = 0 ∨ k = 1 ∨ k = 2 ∨ k = 3 ∨ k = 4 := by omega
    rcases hk with rfl | rfl | rfl | rfl | rfl <;> rfl
  | n + 1, hn => by
    have ih := partsTo_rd b h k hk5 n (by omega)
    rw [partsTo_succ, rd_set', partsTo_length]
    unfold dig
    by_cases hk : min (n / 26) 4 = k
    · rw [if_pos ⟨hk, hk5⟩, if_pos hk, pbit_num b h n (by omega), hk, ih]
      have hd := dig_in b k n
      have hb := bitB_in b n
      exact or_add _ _ _ hd (by omega) (by omega)
    · rw [if_neg (fun hh => hk hh.1), if_neg hk, ih]
      omega
theorem parts_val (b : List Int) (h : ∀ i, 0 ≤ rd b i ∧ rd b i < 256) : val5 (parts b) = valB b 17 := by
  have hs := dig_sum b 136
  rw [sumB_valB b h 17] at hs
  unfold val5 parts
  rw [partsTo_rd b h 0 (by omega) 136 (by omega), partsTo_rd b h 1 (by omega) 136 (by omega), partsTo_rd b h 2 (by omega) 136 (by omega), partsTo_rd b h 3 (by omega) 136 (by omega), partsTo_rd b h 4 (by omega) 136 (by omega)]
  have e1 : (2 : Int) ^ 26 = 67108864 := by decide
  have e2 : (2 : Int) ^ 52 = 4503599627370496 := by decide
  have e3 : (2 : Int) ^ 78 = 302231454903657293676544 := by decide
  have e4 : (2 : Int) ^ 104 = 20282409603651670423947251286016 := by decide
  rw [e1, e2, e3, e4] at hs
  exact hs
theorem parts_in (b : List Int) (h : ∀ i, 0 ≤ rd b i ∧ rd b i < 256) (k : Nat) (hk : k < 4) : 0 ≤ rd (parts b) k ∧ rd (parts b) k < 67108864 := by
  unfold parts
  rw [partsTo_rd b h k (by omega) 136 (by omega)]
  have h1 := (dig_in b k 136).1
  have h2 := dig_cap b k hk 136
  rw [show min 136 (26 * (k + 1)) - 26 * k = 26 by omega] at h2
  have e1 : (2 : Int) ^ 26 = 67108864 := by decide
  rw [e1] at h2
  exact ⟨h1, h2⟩
theorem parts_in4 (b : List Int) (h : ∀ i, 0 ≤ rd b i ∧ rd b i < 256) : 0 ≤ rd (parts b) 4 ∧ rd (parts b) 4 * 20282409603651670423947251286016 ≤ valB b 17 := by
  have h0 := parts_in b h 0 (by omega)
  have h1 := parts_in b h 1 (by omega)
  have h2 := parts_in b h 2 (by omega)
  have h3 := parts_in b h 3 (by omega)
  have h4 : 0 ≤ rd (parts b) 4 := by
    unfold parts
    rw [partsTo_rd b h 4 (by omega) 136 (by omega)]
    exact (dig_in b 4 136).1
  have hv := parts_val b h
  unfold val5 at hv
  omega
theorem valB_in (b : List Int) (h : ∀ i, 0 ≤ rd b i ∧ rd b i < 256) : ∀ n, 0 ≤ valB b n ∧ valB b n < 2 ^ (8 * n)
  | 0 => ⟨Int.le_refl _, by show (0 : Int) < 2 ^ 0; decide⟩
  | n + 1 => by
    have ih := valB_in b h n
    have hx := h n
    have hp : (0 : Int) < 2 ^ (8 * n) := Int.pow_pos (by decide)
    have e : (2 : Int) ^ (8 * (n + 1)) = 2 ^ (8 * n) * 256 := by rw [show 8 * (n + 1) = 8 * n + 8 by omega, Int.pow_add]; rfl
    unfold valB
    rw [e]
    generalize (2 : Int) ^ (8 * n) = p at *
    have h1 : 0 ≤ rd b n * p := Int.mul_nonneg hx.1 (by omega)
    have h2 : rd b n * p ≤ 255 * p := Int.mul_le_mul_of_nonneg_right (by omega) (by omega)
    omega
/-- Bytes are told by their number. -/
theorem valB_inj (a b : List Int) (ha : ∀ i, 0 ≤ rd a i ∧ rd a i < 256) (hb : ∀ i, 0 ≤ rd b i ∧ rd b i < 256) : ∀ n, valB a n = valB b n → ∀ i, i < n → rd a i = rd b i
  | 0, _, i, hi => absurd hi (Nat.not_lt_zero _)
  | n + 1, h, i, hi => by
    have h1 := valB_in a ha n
    have h2 := valB_in b hb n
    have hp : (0 : Int) < 2 ^ (8 * n) := Int.pow_pos (by decide)
    have hx := ha n
    have hy := hb n
    unfold valB at h
    generalize hpp : (2 : Int) ^ (8 * n) = p at *
    have hd : rd a n = rd b n := by
      rcases Int.lt_trichotomy (rd a n) (rd b n) with hlt | he | hlt
      · have : (rd a n + 1) * p ≤ rd b n * p := Int.mul_le_mul_of_nonneg_right (by omega) (by omega)
        rw [Int.add_mul] at this
        omega
      · exact he
      · have : (rd b n + 1) * p ≤ rd a n * p := Int.mul_le_mul_of_nonneg_right (by omega) (by omega)
        rw [Int.add_mul] at this
        omega
    by_cases hin : i = n
    · subst hin; exact hd
    · rw [hd] at h
      exact valB_inj a b ha hb n (by omega) i (by omega)
end Go.Proofs.YtlikinglgegclaaDoor
/- The tag's numbers: what is summed; the lowest 128 bits. -/
namespace Go.Proofs.YtlikinglgegclaaDoor
open Go.RowKit Go.Cour
theorem addTo_raw (s0 s1 s2 s3 s4 p0 p1 p2 p3 p4 : Int) : addTo [s0, s1, s2, s3, s4] [p0, p1, p2, p3, p4] 5 = [u64 (s0 + p0), u64 (s1 + p1), u64 (s2 + p2), u64 (s3 + p3), u64 (s4 + p4)] := by kernel_rfl
/-- Parts added. -/
theorem addTo_val (s p : List Int) (hs : s.length = 5) (hp : p.length = 5) (h : ∀ i, i < 5 → 0 ≤ rd s i ∧ rd s i < 134217728) (k : ∀ i, i < 5 → 0 ≤ rd p i ∧ rd p i < 134217728) :
    val5 (addTo s p 5) = val5 s + val5 p ∧ (∀ i, i < 5 → 0 ≤ rd (addTo s p 5) i ∧ rd (addTo s p 5) i < 268435456) := by
  have h0 := h 0 (by omega)
  have h1 := h 1 (by omega)
  have h2 := h 2 (by omega)
  have h3 := h 3 (by omega)
  have h4 := h 4 (by omega)
  have k0 := k 0 (by omega)
  have k1 := k 1 (by omega)
  have k2 := k 2 (by omega)
  have k3 := k 3 (by omega)
  have k4 := k 4 (by omega)
  have e : addTo s p 5 = [rd s 0 + rd p 0, rd s 1 + rd p 1, rd s 2 + rd p 2, rd s 3 + rd p 3, rd s 4 + rd p 4] := by
    have e1 := addTo_raw (rd s 0) (rd s 1) (rd s 2) (rd s 3) (rd s 4) (rd p 0) (rd p 1) (rd p 2) (rd p 3) (rd p 4)
    rw [← list5 s hs, ← list5 p hp] at e1
    rw [e1, u64_in _ (by omega), u64_in _ (by omega), u64_in _ (by omega), u64_in _ (by omega), u64_in _ (by omega)]
  rw [e]
  refine ⟨?_, fun i hi => ?_⟩
  · show rd s 0 + rd p 0 + (rd s 1 + rd p 1) * 67108864 + (rd s 2 + rd p 2) * 4503599627370496 + (rd s 3 + rd p 3) * 302231454903657293676544 + (rd s 4 + rd p 4) * 20282409603651670423947251286016 = _
    unfold val5
    omega
  · have hh : i = 0 ∨ i = 1 ∨ i = 2 ∨ i = 3 ∨ i = 4 := by omega
    rcases hh with rfl | rfl | rfl | rfl | rfl
    · show 0 ≤ rd s 0 + rd p 0 ∧ rd s 0 + rd p 0 < 268435456; omega
    · show 0 ≤ rd s 1 + rd p 1 ∧ rd s 1 + rd p 1 < 268435456; omega
    · show 0 ≤ rd s 2 + rd p 2 ∧ rd s 2 + rd p 2 < 268435456; omega
    · show 0 ≤ rd s 3 + rd p 3 ∧ rd s 3 + rd p 3 < 268435456; omega
    · show 0 ≤ rd s 4 + rd p 4 ∧ rd s 4 + rd p 4 < 268435456; omega
theorem Near.in {a : List Int} (h : Near a) : ∀ i, i < 5 → 0 ≤ rd a i ∧ rd a i < 134217728 := fun i hi => by
  by_cases h0 : i = 0
  · subst h0; have := h.lo; omega
  · have := h.hi i (by omega) hi; omega
/-- A block: bytes, a one behind. -/
theorem rd_app (xs ys : List Int) (i : Nat) : rd (xs ++ ys) i = if i < xs.length then rd xs i else rd ys (i - xs.length) := by
  unfold rd
  rw [List.getD_eq_getElem?_getD, List.getElem?_append]
  split <;> rw [List.getD_eq_getElem?_getD]
theorem rd_rep0 (n i : Nat) : rd (List.replicate n 0) i = 0 := by
  unfold rd
  rw [List.getD_eq_getElem?_getD, List.getElem?_replicate]
  split <;> rfl
theorem rd_blockOf (ys : List Int) (i : Nat) (hi : i < 17) : rd (blockOf ys) i = if i = min ys.length 16 then 1 else if i < min ys.length 16 then rd ys i else 0 := by
  unfold blockOf
  have hm : min ys.length 16 ≤ 16 := Nat.min_le_right _ _
  have hl : (ys.take (min ys.length 16)).length = min ys.length 16 := by rw [List.length_take]; omega
  rw [rd_set']
  have hlen : (ys.take (min ys.length 16) ++ (List.replicate 17 (0 : Int)).drop (min ys.length 16)).length = 17 := by rw [List.length_append, hl, List.length_drop, List.length_replicate]; omega
  rw [hlen]
  by_cases h : i = min ys.length 16
  · rw [if_pos ⟨h.symm, hi⟩, if_pos h]
  · rw [if_neg (fun hh => h hh.1.symm), if_neg h, rd_app, hl]
    by_cases h2 : i < min ys.length 16
    · rw [if_pos h2, if_pos h2, rd_take _ _ _ h2]
    · rw [if_neg h2, if_neg h2, rd_drop]
      exact rd_rep0 _ _
theorem blockOf_ok (ys : List Int) (h : ∀ i, 0 ≤ rd ys i ∧ rd ys i < 256) (i : Nat) : 0 ≤ rd (blockOf ys) i ∧ rd (blockOf ys) i < 256 := by
  by_cases hi : i < 17
  · rw [rd_blockOf ys i hi]
    have := h i
    split
    · omega
    · split <;> omega
  · unfold rd
    rw [List.getD_eq_getElem?_getD, List.getElem?_eq_none (by rw [blockOf_length]; omega)]
    simp
theorem blockOf_val (ys : List Int) (h : ∀ i, 0 ≤ rd ys i ∧ rd ys i < 256) : valB (blockOf ys) 17 < 680564733841876926926749214863536422912 := by
  have h1 := valB_in (blockOf ys) (blockOf_ok ys h) 16
  have h2 : rd (blockOf ys) 16 ≤ 1 := by
    rw [rd_blockOf ys 16 (by omega)]
    split
    · omega
    · split <;> omega
  have e : (2 : Int) ^ (8 * 16) = 340282366920938463463374607431768211456 := by decide
  rw [e] at h1
  have e2 : valB (blockOf ys) 17 = valB (blockOf ys) 16 + rd (blockOf ys) 16 * 2 ^ (8 * 16) := rfl
  rw [e2, e]
  omega
theorem parts_low (b : List Int) (h : ∀ i, 0 ≤ rd b i ∧ rd b i < 256) (hv : valB b 17 < 680564733841876926926749214863536422912) : ∀ i, i < 5 → 0 ≤ rd (parts b) i ∧ rd (parts b) i < 134217728 := fun i hi => by
  by_cases h4 : i = 4
  · subst h4
    have := parts_in4 b h
    omega
  · have := parts_in b h i (by omega)
    omega
theorem absorb_val (s p ys : List Int) (hs : Near s) (hp : p.length = 5) (hpi : ∀ i, i < 5 → 0 ≤ rd p i ∧ rd p i < 134217728) (h : ∀ i, 0 ≤ rd ys i ∧ rd ys i < 256) :
    (∃ o : Int, val5 (absorb s p ys) = (val5 s + valB (blockOf ys) 17) * val5 p - o * pP) ∧ Near (absorb s p ys) := by
  have hb := blockOf_ok ys h
  obtain ⟨h1, h2⟩ := addTo_val s (parts (blockOf ys)) hs.len (partsTo_length _ _) hs.in (parts_low _ hb (blockOf_val ys h))
  have h3 := times_val (addTo s (parts (blockOf ys)) 5) p (by rw [addTo_length]; exact hs.len) hp h2 hpi
  rw [h1, parts_val _ hb] at h3
  exact h3
/-- What is summed, by numbers. -/
def sumN (R : Int) (bs : List Int) : Nat → Int
  | 0 => 0
  | n + 1 => (sumN R bs n + valB (blockOf (bs.drop (16 * n))) 17) * R % pP
theorem sumTo_val (p bs : List Int) (hp : p.length = 5) (hpi : ∀ i, i < 5 → 0 ≤ rd p i ∧ rd p i < 134217728) (h : ∀ i, 0 ≤ rd bs i ∧ rd bs i < 256) :
    ∀ n, Near (sumTo p bs n) ∧ val5 (sumTo p bs n) % pP = sumN (val5 p) bs n
  | 0 => by
    rw [sumTo_zero]
    exact ⟨⟨by simp, by decide, fun i _ _ => by rw [rd_rep0]; omega⟩, by show val5 (List.replicate 5 0) % pP = 0; decide⟩
  | n + 1 => by
    obtain ⟨ih1, ih2⟩ := sumTo_val p bs hp hpi h n
    rw [sumTo_succ]
    obtain ⟨⟨o, ho⟩, hn⟩ := absorb_val (sumTo p bs n) p (bs.drop (16 * n)) ih1 hp hpi (fun i => by rw [rd_drop]; exact h _)
    refine ⟨hn, ?_⟩
    unfold sumN
    rw [ho, ← ih2]
    generalize val5 (sumTo p bs n) = V at *
    generalize valB (blockOf (bs.drop (16 * n))) 17 = C at *
    generalize val5 p = R at *
    have hV := Int.emod_add_mul_ediv V pP
    have e : (V + C) * R - o * pP = (V % pP + C) * R + pP * (V / pP * R - o) := by
      generalize V % pP = r at *
      generalize V / pP = q at *
      rw [← hV]
      grind
    rw [e, Int.add_mul_emod_self_left]
end Go.Proofs.YtlikinglgegclaaDoor
/- The tag's numbers: brought below the modulus; the lowest 128 bits; a tag's bytes. -/
namespace Go.Proofs.YtlikinglgegclaaDoor
open Go.RowKit Go.Cour
/-- One way through the parts: what is left is carried out. -/
theorem carryTo_val (a : List Int) (hl : a.length = 5) (h : ∀ i, i < 5 → 0 ≤ rd a i ∧ rd a i < 4611686018427387904) :
    0 ≤ (carryTo a 5).2 ∧ val5 (carryTo a 5).1 = val5 a - (carryTo a 5).2 * 1361129467683753853853498429727072845824 ∧ (∀ i, i < 5 → 0 ≤ rd (carryTo a 5).1 i ∧ rd (carryTo a 5).1 i < 67108864) ∧ (carryTo a 5).1.length = 5 := by
  have h0 := h 0 (by omega)
  have h1 := h 1 (by omega)
  have h2 := h 2 (by omega)
  have h3 := h 3 (by omega)
  have h4 := h 4 (by omega)
  generalize ha0 : rd a 0 = a0 at *
  generalize ha1 : rd a 1 = a1 at *
  generalize ha2 : rd a 2 = a2 at *
  generalize ha3 : rd a 3 = a3 at *
  generalize ha4 : rd a 4 = a4 at *
  have ha : a = [a0, a1, a2, a3, a4] := by rw [list5 a hl, ha0, ha1, ha2, ha3, ha4]
  obtain ⟨o0, ho0⟩ : ∃ o, o = a0 / 67108864 := ⟨_, rfl⟩
  obtain ⟨o1, ho1⟩ : ∃ o, o = (a1 + o0) / 67108864 := ⟨_, rfl⟩
  obtain ⟨o2, ho2⟩ : ∃ o, o = (a2 + o1) / 67108864 := ⟨_, rfl⟩
  obtain ⟨o3, ho3⟩ : ∃ o, o = (a3 + o2) / 67108864 := ⟨_, rfl⟩
  obtain ⟨o4, ho4⟩ : ∃ o, o = (a4 + o3) / 67108864 := ⟨_, rfl⟩
  have hc : carryTo a 5 = ([a0 % 67108864, (a1 + o0) % 67108864, (a2 + o1) % 67108864, (a3 + o2) % 67108864, (a4 + o3) % 67108864], o4) := by
    have e : carryTo a 5 = carry1 (carry1 (carry1 (carry1 (carry1 (a, 0) 0) 1) 2) 3) 4 := rfl
    rw [e, ha, carry1_0 _ _ _ _ _ _ (by omega), Int.add_zero, ← ho0, carry1_1 _ _ _ _ _ _ (by omega), ← ho1, carry1_2 _ _ _ _ _ _ (by omega), ← ho2, carry1_3 _ _ _ _ _ _ (by omega), ← ho3, carry1_4 _ _ _ _ _ _ (by omega), ← ho4]
  rw [hc]
  refine ⟨by show 0 ≤ o4; omega, ?_, fun i hi => ?_, rfl⟩
  · show a0 % 67108864 + (a1 + o0) % 67108864 * 67108864 + (a2 + o1) % 67108864 * 4503599627370496 + (a3 + o2) % 67108864 * 302231454903657293676544 + (a4 + o3) % 67108864 * 20282409603651670423947251286016 = _ - o4 * _
    unfold val5
    rw [ha0, ha1, ha2, ha3, ha4]
    omega
  · have hh : i = 0 ∨ i = 1 ∨ i = 2 ∨ i = 3 ∨ i = 4 := by omega
    rcases hh with rfl | rfl | rfl | rfl | rfl
    · show 0 ≤ a0 % 67108864 ∧ a0 % 67108864 < 67108864; omega
    · show 0 ≤ (a1 + o0) % 67108864 ∧ (a1 + o0) % 67108864 < 67108864; omega
    · show 0 ≤ (a2 + o1) % 67108864 ∧ (a2 + o1) % 67108864 < 67108864; omega
    · show 0 ≤ (a3 + o2) % 67108864 ∧ (a3 + o2) % 67108864 < 67108864; omega
    · show 0 ≤ (a4 + o3) % 67108864 ∧ (a4 + o3) % 67108864 < 67108864; omega
/-- Carried twice more, each part is one. -/
theorem carry2_full (a : List Int) (h : Near a) : (∃ o : Int, val5 (carryN a 2) = val5 a - o * pP) ∧ (carryN a 2).length = 5 ∧ ∀ i, i < 5 → 0 ≤ rd (carryN a 2) i ∧ rd (carryN a 2) i < 67108864 := by
  have e : carryN a 2 = carryRound (carryRound a) := (carryN_succ a 1).trans (congrArg carryRound ((carryN_succ a 0).trans (congrArg carryRound (carryN_zero a))))
  have h0 := h.lo
  have h1 := h.hi 1 (by omega) (by omega)
  have h2 := h.hi 2 (by omega) (by omega)
  have h3 := h.hi 3 (by omega) (by omega)
  have h4 := h.hi 4 (by omega) (by omega)
  obtain ⟨o, ho, hv, hb0, hb, hob⟩ := carryRound_val a h.len (fun i hi => by have := h.in i hi; omega)
  have hb1 := hb 1 (by omega) (by omega)
  have hb2 := hb 2 (by omega) (by omega)
  have hb3 := hb 3 (by omega) (by omega)
  have hb4 := hb 4 (by omega) (by omega)
  have hl1 : (carryRound a).length = 5 := by rw [carryRound_length, h.len]
  have hc0 : rd (carryRound a) 0 < 67108864 := by
    have : o = 0 ∨ o = 1 := by omega
    rcases this with rfl | rfl
    · omega
    · unfold val5 pP at hv; omega
  obtain ⟨o', ho', hv', hb0', hb', hob'⟩ := carryRound_val (carryRound a) hl1 (fun i hi => by
    have hh : i = 0 ∨ i = 1 ∨ i = 2 ∨ i = 3 ∨ i = 4 := by omega
    rcases hh with rfl | rfl | rfl | rfl | rfl <;> omega)
  have hb1' := hb' 1 (by omega) (by omega)
  have hb2' := hb' 2 (by omega) (by omega)
  have hb3' := hb' 3 (by omega) (by omega)
  have hb4' := hb' 4 (by omega) (by omega)
  have hc0' : rd (carryRound (carryRound a)) 0 < 67108864 := by
    have : o' = 0 ∨ o' = 1 := by omega
    rcases this with rfl | rfl
    · omega
    · unfold val5 pP at hv'; omega
  rw [e]
  refine ⟨⟨o + o', by rw [hv', hv, Int.add_mul]; omega⟩, by rw [carryRound_length, hl1], fun i hi => ?_⟩
  have hh : i = 0 ∨ i = 1 ∨ i = 2 ∨ i = 3 ∨ i = 4 := by omega
  rcases hh with rfl | rfl | rfl | rfl | rfl <;> omega
theorem lowA_val (a : List Int) (h : Near a) : val5 (lowA a) = val5 a % pP ∧ (∀ i, i < 5 → 0 ≤ rd (lowA a) i ∧ rd (lowA a) i < 67108864) := by
  obtain ⟨⟨o, ho⟩, hl, hb⟩ := carry2_full a h
  have hla : lowA a = if 0 < (more5 (carryN a 2)).2 then (more5 (carryN a 2)).1 else carryN a 2 := rfl
  rw [hla]
  clear hla
  have hmod : val5 a % pP = val5 (carryN a 2) % pP := by
    have : val5 a = val5 (carryN a 2) + pP * o := by rw [ho, Int.mul_comm]; omega
    rw [this, Int.add_mul_emod_self_left]
  rw [hmod]
  clear hmod ho
  generalize carryN a 2 = c at *
  have hb0 := hb 0 (by omega)
  have hb1 := hb 1 (by omega)
  have hb2 := hb 2 (by omega)
  have hb3 := hb 3 (by omega)
  have hb4 := hb 4 (by omega)
  have hcv : 0 ≤ val5 c ∧ val5 c < 1361129467683753853853498429727072845824 := by unfold val5; omega
  have hs : ∀ i, rd (c.set 0 (u64 (rd c 0 + 5))) i = if 0 = i ∧ i < 5 then rd c 0 + 5 else rd c i := fun i => by rw [rd_set', hl, u64_in _ (by omega)]
  have hsv : val5 (c.set 0 (u64 (rd c 0 + 5))) = val5 c + 5 := by
    unfold val5
    rw [hs 0, hs 1, hs 2, hs 3, hs 4]
    simp
    omega
  obtain ⟨hm1, hm2, hm3, hm4⟩ := carryTo_val (c.set 0 (u64 (rd c 0 + 5))) (by simp [hl]) (fun i hi => by
    rw [hs i]
    have := hb i hi
    split <;> omega)
  have hx0 := hm3 0 (by omega)
  have hx1 := hm3 1 (by omega)
  have hx2 := hm3 2 (by omega)
  have hx3 := hm3 3 (by omega)
  have hx4 := hm3 4 (by omega)
  have hmv : 0 ≤ val5 (carryTo (c.set 0 (u64 (rd c 0 + 5))) 5).1 ∧ val5 (carryTo (c.set 0 (u64 (rd c 0 + 5))) 5).1 < 1361129467683753853853498429727072845824 := by unfold val5; omega
  rw [hsv] at hm2
  have hmo : more5 c = carryTo (c.set 0 (u64 (rd c 0 + 5))) 5 := rfl
  rw [hmo]
  clear hmo hs hsv
  generalize carryTo (c.set 0 (u64 (rd c 0 + 5))) 5 = M at *
  have hp : pP = 1361129467683753853853498429727072845819 := rfl
  by_cases hpos : 0 < M.2
  · rw [if_pos hpos]
    refine ⟨?_, hm3⟩
    generalize val5 c = V at *
    generalize val5 M.1 = W at *
    generalize M.2 = O at *
    have ho1 : O = 1 := by omega
    subst ho1
    have e : V = W + pP * 1 := by omega
    rw [e, Int.add_mul_emod_self_left]
    exact (Int.emod_eq_of_lt (by omega) (by omega)).symm
  · rw [if_neg hpos]
    refine ⟨?_, hb⟩
    generalize val5 c = V at *
    generalize val5 M.1 = W at *
    generalize M.2 = O at *
    have ho1 : O = 0 := by omega
    subst ho1
    exact (Int.emod_eq_of_lt (by omega) (by omega)).symm
end Go.Proofs.YtlikinglgegclaaDoor
/- The tag's numbers: its sixteen bytes. -/
namespace Go.Proofs.YtlikinglgegclaaDoor
open Go.RowKit Go.Cour
theorem or_add2 (L t : Int) (s : Nat) (hL : 0 ≤ L ∧ L < 2 ^ s) (ht : 0 ≤ t) (hb : t * 2 ^ s < 18446744073709551616) (hs : (2 : Int) ^ s ≤ 18446744073709551616) : bits .or .u64 L (t * 2 ^ s) = L + t * 2 ^ s := by
  obtain ⟨a, rfl⟩ : ∃ a : Nat, L = (a : Int) := ⟨L.toNat, by omega⟩
  obtain ⟨u, rfl⟩ : ∃ u : Nat, t = (u : Int) := ⟨t.toNat, by omega⟩
  have ha : a < 2 ^ s := by exact_mod_cast hL.2
  have e : ((u : Int) * 2 ^ s) = ((2 ^ s * u : Nat) : Int) := by rw [Nat.mul_comm]; simp
  rw [e] at hb ⊢
  rw [bits_or_u64_nat a _ (by omega) (by omega), Nat.or_comm, ← Nat.two_pow_add_eq_or_of_lt ha]
  omega
theorem low_val (x : List Int) (h : ∀ i, i < 5 → 0 ≤ rd x i ∧ rd x i < 67108864) :
    (0 ≤ lowL x ∧ lowL x < 18446744073709551616) ∧ (0 ≤ lowH x ∧ lowH x < 18446744073709551616) ∧ lowL x + lowH x * 18446744073709551616 = val5 x % 340282366920938463463374607431768211456 := by
  have h0 := h 0 (by omega)
  have h1 := h 1 (by omega)
  have h2 := h 2 (by omega)
  have h3 := h 3 (by omega)
  have h4 := h 4 (by omega)
  unfold lowL lowH val5
  generalize rd x 0 = x0 at *
  generalize rd x 1 = x1 at *
  generalize rd x 2 = x2 at *
  generalize rd x 3 = x3 at *
  generalize rd x 4 = x4 at *
  clear h
  have p26 : (2 : Int) ^ 26 = 67108864 := by decide
  have p52 : (2 : Int) ^ 52 = 4503599627370496 := by decide
  have p14 : (2 : Int) ^ 14 = 16384 := by decide
  have p40 : (2 : Int) ^ 40 = 1099511627776 := by decide
  have e1 : bits .or .u64 x0 (u64 (x1 * 67108864)) = x0 + x1 * 67108864 := by
    rw [u64_in _ (by omega)]
    have := or_add2 x0 x1 26 (by rw [p26]; omega) (by omega) (by rw [p26]; omega) (by rw [p26]; omega)
    rw [p26] at this
    exact this
  have e2 : u64 (x2 * 4503599627370496) = x2 % 4096 * 4503599627370496 := by rw [u64_eq]; omega
  have e3 : bits .or .u64 (x0 + x1 * 67108864) (x2 % 4096 * 4503599627370496) = x0 + x1 * 67108864 + x2 % 4096 * 4503599627370496 := by
    have := or_add2 (x0 + x1 * 67108864) (x2 % 4096) 52 (by rw [p52]; omega) (by omega) (by rw [p52]; omega) (by rw [p52]; omega)
    rw [p52] at this
    exact this
  have f1 : bits .or .u64 (x2 / 4096) (u64 (x3 * 16384)) = x2 / 4096 + x3 * 16384 := by
    rw [u64_in _ (by omega)]
    have := or_add2 (x2 / 4096) x3 14 (by rw [p14]; omega) (by omega) (by rw [p14]; omega) (by rw [p14]; omega)
    rw [p14] at this
    exact this
  have f2 : u64 (x4 * 1099511627776) = x4 % 16777216 * 1099511627776 := by rw [u64_eq]; omega
  have f3 : bits .or .u64 (x2 / 4096 + x3 * 16384) (x4 % 16777216 * 1099511627776) = x2 / 4096 + x3 * 16384 + x4 % 16777216 * 1099511627776 := by
    have := or_add2 (x2 / 4096 + x3 * 16384) (x4 % 16777216) 40 (by rw [p40]; omega) (by omega) (by rw [p40]; omega) (by rw [p40]; omega)
    rw [p40] at this
    exact this
  rw [e1, e2, e3, f1, f2, f3]
  refine ⟨by omega, by omega, by omega⟩
/-- A number's first bytes. -/
def byteSum (y : Int) : Nat → Int
  | 0 => 0
  | n + 1 => byteSum y n + y / 2 ^ (8 * n) % 256 * 2 ^ (8 * n)
theorem byteSum_val (y : Int) (hy : 0 ≤ y) : ∀ n, byteSum y n = y % 2 ^ (8 * n)
  | 0 => by
    show (0 : Int) = y % 2 ^ 0
    rw [Int.pow_zero, Int.emod_one]
  | n + 1 => by
    unfold byteSum
    rw [byteSum_val y hy n]
    have e : (2 : Int) ^ (8 * (n + 1)) = 2 ^ (8 * n) * 256 := by rw [show 8 * (n + 1) = 8 * n + 8 by omega, Int.pow_add]; rfl
    rw [e]
    obtain ⟨m, rfl⟩ : ∃ m : Nat, y = (m : Int) := ⟨y.toNat, by omega⟩
    have hp : (2 : Int) ^ (8 * n) = ((2 ^ (8 * n) : Nat) : Int) := by simp
    rw [hp]
    generalize (2 : Nat) ^ (8 * n) = p
    have h1 := Nat.mod_mul (x := m) (a := p) (b := 256)
    have h2 : ((m % (p * 256) : Nat) : Int) = ((m % p + p * (m / p % 256) : Nat) : Int) := by rw [h1]
    rw [Int.natCast_add, Int.natCast_mul] at h2
    simp only [Int.natCast_emod, Int.natCast_ediv, Int.natCast_mul] at h2
    have h3 : ((256 : Nat) : Int) = 256 := rfl
    rw [h3] at h2
    rw [h2, Int.mul_comm (p : Int)]
/-- Both halves' first bytes. -/
def halfSum (l h : Int) : Nat → Int
  | 0 => 0
  | n + 1 => halfSum l h n + halfOf l h n / 2 ^ (8 * (n % 8)) % 256 * 2 ^ (8 * n)
theorem halfSum_low (l h : Int) : ∀ n, n ≤ 8 → halfSum l h n = byteSum l n
  | 0, _ => rfl
  | n + 1, hn => by
    unfold halfSum byteSum
    rw [halfSum_low l h n (by omega), halfOf, if_neg (by omega), show n % 8 = n by omega]
theorem halfSum_high (l h : Int) : ∀ m, m ≤ 8 → halfSum l h (8 + m) = byteSum l 8 + byteSum h m * 18446744073709551616
  | 0, _ => by rw [Nat.add_zero, halfSum_low l h 8 (by omega)]; simp [byteSum]
  | m + 1, hm => by
    rw [← Nat.add_assoc]
    unfold halfSum byteSum
    rw [halfSum_high l h m (by omega), halfOf, if_pos (by omega), show (8 + m) % 8 = m by omega, show 8 * (8 + m) = 8 * m + 64 by omega, Int.pow_add]
    have e : (2 : Int) ^ 64 = 18446744073709551616 := by decide
    rw [e, Int.add_mul]
    simp only [byteSum, Int.mul_assoc]
    omega
theorem halfSum_val (l h : Int) (hl : 0 ≤ l ∧ l < 18446744073709551616) (hh : 0 ≤ h ∧ h < 18446744073709551616) : halfSum l h 16 = l + h * 18446744073709551616 := by
  have e : (2 : Int) ^ (8 * 8) = 18446744073709551616 := by decide
  have := halfSum_high l h 8 (by omega)
  rw [byteSum_val l hl.1 8, byteSum_val h hh.1 8, e, Int.emod_eq_of_lt hl.1 hl.2, Int.emod_eq_of_lt hh.1 hh.2] at this
  exact this
theorem valB_set (xs : List Int) (m : Nat) (v : Int) : ∀ n, n ≤ m → valB (xs.set m v) n = valB xs n
  | 0, _ => rfl
  | n + 1, h => by
    unfold valB
    rw [valB_set xs m v n (by omega), rd_set', if_neg (by omega)]
theorem and255 (x : Int) (h0 : 0 ≤ x) (h1 : x < 18446744073709551616) : bits .and .u64 x 255 = x % 256 :=
  bits_mask .u64 64 (by decide) (fun n h0 h1 => by rw [IntKind.wrap_u64]; omega) 8 (by decide) x h0 (by simpa using h1)
theorem outS_val (l h : Int) (key : List Int) (hl : 0 ≤ l ∧ l < 18446744073709551616) (hh : 0 ≤ h ∧ h < 18446744073709551616) (rk : ∀ i, 0 ≤ rd key i ∧ rd key i < 256) : ∀ n, n ≤ 16 →
    (0 ≤ (outS l h key n).2 ∧ (outS l h key n).2 ≤ 1) ∧ (∀ i, 0 ≤ rd (outS l h key n).1 i ∧ rd (outS l h key n).1 i < 256) ∧
      valB (outS l h key n).1 n + (outS l h key n).2 * 2 ^ (8 * n) = halfSum l h n + valB (key.drop 16) n
  | 0, _ => by
    rw [outS_zero]
    exact ⟨by decide, fun i => by rw [rd_rep0]; omega, by simp [valB, halfSum]⟩
  | n + 1, hn => by
    obtain ⟨h1, h2, h3⟩ := outS_val l h key hl hh rk n (by omega)
    have hlen := outS_length l h key n
    rw [outS_succ]
    generalize outS l h key n = s at *
    have hy : 0 ≤ halfOf l h n / 2 ^ (8 * (n % 8)) ∧ halfOf l h n / 2 ^ (8 * (n % 8)) < 18446744073709551616 := by
      have hp : (0 : Int) < 2 ^ (8 * (n % 8)) := Int.pow_pos (by decide)
      have h0 : 0 ≤ halfOf l h n ∧ halfOf l h n < 18446744073709551616 := by unfold halfOf; split <;> assumption
      refine ⟨Int.ediv_nonneg h0.1 (by omega), ?_⟩
      have := Int.ediv_le_self (2 ^ (8 * (n % 8))) h0.1
      omega
    have hk := rk (16 + n)
    obtain ⟨y, hyy⟩ : ∃ y, y = halfOf l h n / 2 ^ (8 * (n % 8)) % 256 := ⟨_, rfl⟩
    have hyb : 0 ≤ y ∧ y < 256 := by rw [hyy]; exact ⟨Int.emod_nonneg _ (by decide), Int.emod_lt_of_pos _ (by decide)⟩
    have ht : u64 (u64 (bits .and .u64 (halfOf l h n / 2 ^ (8 * (n % 8))) 255 + u64 (rd key (16 + n))) + s.2) = y + rd key (16 + n) + s.2 := by
      rw [and255 _ hy.1 hy.2, ← hyy, u64_in (rd key (16 + n)) (by omega), u64_in (y + rd key (16 + n)) (by omega), u64_in _ (by omega)]
    have hs : ostep l h key s n = (s.1.set n ((y + rd key (16 + n) + s.2) % 256), (y + rd key (16 + n) + s.2) / 256) := by unfold ostep; rw [ht]
    rw [hs]
    refine ⟨by show 0 ≤ (y + rd key (16 + n) + s.2) / 256 ∧ (y + rd key (16 + n) + s.2) / 256 ≤ 1; omega, fun i => ?_, ?_⟩
    · show 0 ≤ rd (s.1.set n _) i ∧ rd (s.1.set n _) i < 256
      rw [rd_set']
      split
      · exact ⟨Int.emod_nonneg _ (by decide), Int.emod_lt_of_pos _ (by decide)⟩
      · exact h2 i
    · show valB (s.1.set n ((y + rd key (16 + n) + s.2) % 256)) (n + 1) + (y + rd key (16 + n) + s.2) / 256 * 2 ^ (8 * (n + 1)) = _
      have e : (2 : Int) ^ (8 * (n + 1)) = 2 ^ (8 * n) * 256 := by rw [show 8 * (n + 1) = 8 * n + 8 by omega, Int.pow_add]; rfl
      have ev : valB (s.1.set n ((y + rd key (16 + n) + s.2) % 256)) (n + 1) = valB s.1 n + (y + rd key (16 + n) + s.2) % 256 * 2 ^ (8 * n) := by
        show valB (s.1.set n ((y + rd key (16 + n) + s.2) % 256)) n + rd (s.1.set n ((y + rd key (16 + n) + s.2) % 256)) n * 2 ^ (8 * n) = _
        rw [valB_set _ _ _ n (Nat.le_refl _), rd_set', if_pos ⟨rfl, by omega⟩]
      have eh : halfSum l h (n + 1) = halfSum l h n + y * 2 ^ (8 * n) := by rw [hyy]; rfl
      have ek : valB (key.drop 16) (n + 1) = valB (key.drop 16) n + rd key (16 + n) * 2 ^ (8 * n) := by
        show valB (key.drop 16) n + rd (key.drop 16) n * 2 ^ (8 * n) = _
        rw [rd_drop]
      rw [e, ev, eh, ek]
      generalize (2 : Int) ^ (8 * n) = p at *
      have hd := Int.emod_add_mul_ediv (y + rd key (16 + n) + s.2) 256
      generalize (y + rd key (16 + n) + s.2) % 256 = q at *
      generalize (y + rd key (16 + n) + s.2) / 256 = r at *
      grind
theorem bits_and_u8_nat (a b : Nat) (ha : a < 256) (hb : b < 256) : bits .and .u8 (a : Int) (b : Int) = ((a &&& b : Nat) : Int) := by
  have hx : a &&& b < 2 ^ 8 := Nat.and_lt_two_pow _ (by omega)
  have h1 : (BitVec.ofInt 8 (a : Int)).toNat = a := by
    rw [BitVec.ofInt_natCast, BitVec.toNat_ofNat]; exact Nat.mod_eq_of_lt (by omega)
  have h2 : (BitVec.ofInt 8 (b : Int)).toNat = b := by
    rw [BitVec.ofInt_natCast, BitVec.toNat_ofNat]; exact Nat.mod_eq_of_lt (by omega)
  show IntKind.u8.wrap ((BitVec.ofInt 8 (a : Int) &&& BitVec.ofInt 8 (b : Int)).toNat : Int) = _
  rw [BitVec.toNat_and, h1, h2, IntKind.wrap_u8]
  omega
theorem and_u8_in (x : Int) (m : Nat) (hx : 0 ≤ x ∧ x < 256) (hm : m < 256) : 0 ≤ bits .and .u8 x (m : Int) ∧ bits .and .u8 x (m : Int) < 256 := by
  obtain ⟨a, rfl⟩ : ∃ a : Nat, x = (a : Int) := ⟨x.toNat, by omega⟩
  rw [bits_and_u8_nat a m (by omega) hm]
  have : a &&& m < 2 ^ 8 := Nat.and_lt_two_pow _ (by omega)
  omega
theorem set_in {xs : List Int} (h : ∀ i, 0 ≤ rd xs i ∧ rd xs i < 256) (i : Nat) (x : Int) (h0 : 0 ≤ x ∧ x < 256) (j : Nat) : 0 ≤ rd (xs.set i x) j ∧ rd (xs.set i x) j < 256 := by
  rw [rd_set']
  split
  · exact h0
  · exact h j
theorem clampA_in (s : List Int) (h : ∀ i, 0 ≤ rd s i ∧ rd s i < 256) : ∀ n, ∀ i, 0 ≤ rd (clampA s n) i ∧ rd (clampA s n) i < 256
  | 0 => h
  | n + 1 => by
    rw [clampA_succ]
    exact set_in (clampA_in s h n) _ _ (and_u8_in _ 15 (clampA_in s h n _) (by decide))
theorem clampB_in (s : List Int) (h : ∀ i, 0 ≤ rd s i ∧ rd s i < 256) : ∀ n, ∀ i, 0 ≤ rd (clampB s n) i ∧ rd (clampB s n) i < 256
  | 0 => h
  | n + 1 => by
    rw [clampB_succ]
    exact set_in (clampB_in s h n) _ _ (and_u8_in _ 252 (clampB_in s h n _) (by decide))
theorem rbytes_in (key : List Int) (hk : key.length = 32) (rk : ∀ i, 0 ≤ rd key i ∧ rd key i < 256) : ∀ i, 0 ≤ rd (rbytes key) i ∧ rd (rbytes key) i < 256 := by
  refine clampB_in _ (clampA_in _ (fun i => ?_) 4) 3
  have hl : (key.take 16).length = 16 := by rw [List.length_take]; omega
  rw [rd_app, hl]
  split
  · rename_i hi; rw [rd_take _ _ _ hi]; exact rk i
  · have : rd [0] (i - 16) = 0 := by
      unfold rd
      cases i - 16 <;> rfl
    rw [this]
    omega
theorem rbytes_16 (key : List Int) (hk : key.length = 32) : rd (rbytes key) 16 = 0 := by
  have hl : (key.take 16).length = 16 := by rw [List.length_take]; omega
  have ha : ∀ (s : List Int) (n : Nat), n ≤ 4 → rd (clampA s n) 16 = rd s 16 := fun s n => by
    induction n with
    | zero => intro _; rfl
    | succ n ih => intro hn; rw [clampA_succ, rd_set', if_neg (by omega), ih (by omega)]
  have hb : ∀ (s : List Int) (n : Nat), n ≤ 3 → rd (clampB s n) 16 = rd s 16 := fun s n => by
    induction n with
    | zero => intro _; rfl
    | succ n ih => intro hn; rw [clampB_succ, rd_set', if_neg (by omega), ih (by omega)]
  unfold rbytes
  rw [hb _ 3 (by omega), ha _ 4 (by omega), rd_app, hl, if_neg (by omega)]
  rfl
/-- The tag, as a number: the sum below the modulus, its lowest 128 bits, the key's second half. -/
theorem poly_num (key bs : List Int) (hk : key.length = 32) (rk : ∀ i, 0 ≤ rd key i ∧ rd key i < 256) (rb : ∀ i, 0 ≤ rd bs i ∧ rd bs i < 256) :
    (∀ i, 0 ≤ rd (polySum key bs) i ∧ rd (polySum key bs) i < 256) ∧
      valB (polySum key bs) 16 = (sumN (valB (rbytes key) 17) bs ((bs.length + 15) / 16) % 340282366920938463463374607431768211456 + valB (key.drop 16) 16) % 340282366920938463463374607431768211456 := by
  have hrb := rbytes_in key hk rk
  have hrv : valB (rbytes key) 17 < 680564733841876926926749214863536422912 := by
    have h1 := valB_in (rbytes key) hrb 16
    have e : (2 : Int) ^ (8 * 16) = 340282366920938463463374607431768211456 := by decide
    rw [e] at h1
    have e2 : valB (rbytes key) 17 = valB (rbytes key) 16 + rd (rbytes key) 16 * 2 ^ (8 * 16) := rfl
    rw [e2, rbytes_16 key hk]
    omega
  obtain ⟨hn, hv⟩ := sumTo_val (parts (rbytes key)) bs (partsTo_length _ _) (parts_low _ hrb hrv) rb ((bs.length + 15) / 16)
  rw [parts_val _ hrb] at hv
  have hn' : Near (sumOf (parts (rbytes key)) bs) := hn
  have hv' : val5 (sumOf (parts (rbytes key)) bs) % pP = sumN (valB (rbytes key) 17) bs ((bs.length + 15) / 16) := hv
  obtain ⟨hx, hxb⟩ := lowA_val _ hn'
  obtain ⟨hL, hH, hLH⟩ := low_val _ hxb
  obtain ⟨ho, hob, hov⟩ := outS_val _ _ key hL hH rk 16 (Nat.le_refl _)
  rw [halfSum_val _ _ hL hH, hLH, hx, hv'] at hov
  have e : (2 : Int) ^ (8 * 16) = 340282366920938463463374607431768211456 := by decide
  rw [e] at hov
  refine ⟨hob, ?_⟩
  have hvb := valB_in _ hob 16
  rw [e] at hvb
  show valB (outS _ _ key 16).1 16 = _
  generalize valB (outS _ _ key 16).1 16 = W at *
  generalize (outS _ _ key 16).2 = O at *
  generalize sumN (valB (rbytes key) 17) bs ((bs.length + 15) / 16) % 340282366920938463463374607431768211456 = A at *
  generalize valB (key.drop 16) 16 = K at *
  rw [← hov, Int.add_mul_emod_self_right]
  exact (Int.emod_eq_of_lt hvb.1 hvb.2).symm
end Go.Proofs.YtlikinglgegclaaDoor
