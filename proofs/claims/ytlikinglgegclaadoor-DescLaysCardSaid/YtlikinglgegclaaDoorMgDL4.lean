import Derived.Test.YtlikinglgegclaaDoorProg
import Derived.StillTailTactics
import Derived.Deep.QuietTactic
import Derived.BigQuiet
import Derived.Laws.Closers25b
import Derived.Lib.AppendZerosOnto
import Derived.Test.YtlikinglgegclaaDoorMgDL0
import Derived.Test.YtlikinglgegclaaDoorMgDL1
import Derived.Test.YtlikinglgegclaaDoorMgDL2
import Derived.Test.YtlikinglgegclaaDoorMgDL3
set_option linter.unusedSimpArgs false
set_option linter.unusedVariables false
/- A tag's arithmetic: a product. -/
namespace Go.Proofs.YtlikinglgegclaaDoor
open Go.RowKit Go.Cour
def term (a b : List Int) (i j : Nat) : Int := if 5 ≤ i + j then u64 (u64 (rd a i * rd b j) * 5) else u64 (rd a i * rd b j)
def tinTo (a b : List Int) (i : Nat) (s : List Int) (n : Nat) : List Int := (List.range n).foldl (fun s j => s.set ((i + j) % 5) (u64 (rd s ((i + j) % 5) + term a b i j))) s
def toutTo (a b : List Int) (n : Nat) : List Int := (List.range n).foldl (fun s i => tinTo a b i s 5) (List.replicate 5 0)
def times (a b : List Int) : List Int := carryN (toutTo a b 5) 2
theorem tinTo_succ (a b : List Int) (i : Nat) (s : List Int) (n : Nat) : tinTo a b i s (n + 1) = (tinTo a b i s n).set ((i + n) % 5) (u64 (rd (tinTo a b i s n) ((i + n) % 5) + term a b i n)) := foldl_succ' _ _ _
theorem tinTo_zero (a b : List Int) (i : Nat) (s : List Int) : tinTo a b i s 0 = s := rfl
theorem toutTo_succ (a b : List Int) (n : Nat) : toutTo a b (n + 1) = tinTo a b n (toutTo a b n) 5 := foldl_succ' _ _ _
theorem toutTo_zero (a b : List Int) : toutTo a b 0 = List.replicate 5 0 := rfl
theorem tinTo_length (a b : List Int) (i : Nat) (s : List Int) : ∀ n, (tinTo a b i s n).length = s.length
  | 0 => rfl
  | n + 1 => by rw [tinTo_succ, List.length_set]; exact tinTo_length a b i s n
theorem toutTo_length (a b : List Int) : ∀ n, (toutTo a b n).length = 5
  | 0 => by simp [toutTo_zero]
  | n + 1 => by rw [toutTo_succ, tinTo_length]; exact toutTo_length a b n
theorem times_length (a b : List Int) : (times a b).length = 5 := by rw [times, carryN_length]; exact toutTo_length a b 5
/-- What the blocks of a call of times hold. -/
structure TS (w wr : World) (a b s : List Int) : Prop where
  a : Blk wr w.heap.size 165 (ints .u64 a)
  b : Blk wr (w.heap.size + 1) 165 (ints .u64 b)
  r : Blk wr (w.heap.size + 1 + 1) 165 (ints .u64 (List.replicate 5 0))
  s : Blk wr (w.heap.size + 1 + 1 + 1) 165 (ints .u64 s)
  below : Below w.heap.size w wr
theorem TS.set {w wr : World} {a b s : List Int} (h : TS w wr a b s) (i : Nat) (x : Int) : TS w (wr.setCell ⟨w.heap.size + 1 + 1 + 1, i, none⟩ (.int .u64 x)) a b (s.set i x) :=
  ⟨h.a.setOther (by simp; try omega) _, h.b.setOther (by simp; try omega) _, h.r.setOther (by simp; try omega) _, h.s.setI i x, h.below.setCell (by simp; try omega) _⟩
theorem TS.drewN {w wr : World} {a b s : List Int} (h : TS w wr a b s) (n : Nat) : TS w (wr.drewN n) a b s := ⟨h.a.drewN n, h.b.drewN n, h.r.drewN n, h.s.drewN n, below_drewN h.below n⟩
set_option maxHeartbeats 4000000 in
set_option maxRecDepth 100000 in
theorem times_calls (a b : List Int) (w : World) (ha : a.length = 5) (hb : b.length = 5) :
    Calls Tryd.prog 114 #[.agg (ints .u64 a).toArray, .agg (ints .u64 b).toArray] w fun e w' => e = .returned (.agg (ints .u64 (times a b)).toArray) ∧ Below w.heap.size w w' := by
  have HA := hid ha
  have HB := hid hb
  clear ha hb
  go_enter Tryd.func114, Tryd.ntmps114
  go_wp2_with fail
  go_loopg [9] 5 (fun kq v9 wr => ∃ i : Nat, i ≤ 5 ∧ v9 = .int .i64 i ∧ Hd (kq + i = 5) ∧ TS w wr a b (toutTo a b i))
  case atStart =>
    refine ⟨0, by omega, rfl, hid rfl, ?_, ?_, ?_, ?_, ?_⟩
    · exact (((Blk.new w 165 (ints .u64 a)).alloc _).alloc _).alloc _
    · exact ((Blk.new' (w.alloc _) 165 (ints .u64 b) _ (by simp)).alloc _).alloc _
    · exact (Blk.new' ((w.alloc _).alloc _) 165 (ints .u64 (List.replicate 5 0)) _ (by simp)).alloc _
    · exact Blk.new' (((w.alloc _).alloc _).alloc _) 165 (ints .u64 (List.replicate 5 0)) _ (by simp)
    · exact ((((Below.refl _ _).alloc (Nat.le_refl _) _).alloc (by simp) _).alloc (by simp; omega) _).alloc (by simp; omega) _
  case round =>
    obtain ⟨i, hi, rfl, hq, hS⟩ := hrel
    by_cases hlt : i < 5
    · have hd1 : decide ((i : Int) < 5) = true := by simp; omega
      go_wp2_with fail
      obtain ⟨wo, rfl⟩ : ∃ wo : World, wo = wr := ⟨_, rfl⟩
      obtain ⟨gk1, hgk⟩ : ∃ g : Nat, Hd (g = gk) := ⟨gk, hid rfl⟩
      have hq1 : Hd (gk1 + i = 5) := hid (by rw [hgk.out]; exact hq.out)
      obtain ⟨X, hX⟩ : ∃ X, Hd (X = toutTo a b i) := ⟨_, hid rfl⟩
      have hXl : Hd (X.length = 5) := hid (by rw [hX.out, toutTo_length])
      rw [← hX.out] at hS
      go_loopg [12] 5 (fun kq v12 wr => ∃ j : Nat, j ≤ 5 ∧ v12 = .int .i64 j ∧ Hd (kq + j = 5) ∧ TS w wr a b (tinTo a b i X j))
      case atStart => exact ⟨0, by omega, rfl, hid rfl, by rw [tinTo_zero]; exact hS⟩
      case round =>
        clear hS
        obtain ⟨j, hj, rfl, hq2, hS⟩ := hrel
        obtain ⟨Y, hY⟩ : ∃ Y, Hd (Y = tinTo a b i X j) := ⟨_, hid rfl⟩
        rw [← hY.out] at hS
        have hYl : Hd (Y.length = 5) := hid (by rw [hY.out, tinTo_length]; exact hXl.out)
        by_cases hjlt : j < 5
        · have ca := hS.a.cellI i (by have := HA.out; omega)
          have cb := hS.b.cellI j (by have := HB.out; omega)
          obtain ⟨m, hm, hm5⟩ : ∃ m : Nat, Hd (m = (i + j) % 5) ∧ m < 5 := ⟨_, hid rfl, by omega⟩
          have cs := hS.s.cellI m (by have := hYl.out; omega)
          have fs := hS.s.frozen m
          have a1 : (i : Int) < 5 := by omega
          have a2 : (j : Int) < 5 := by omega
          have a4 : ((i : Int) + (j : Int)) % 5 = (m : Int) := by have := hm.out; omega
          have a5 : (m : Int) < 5 := by omega
          by_cases hs : 5 ≤ i + j
          · have a6 : (5 : Int) ≤ (i : Int) + (j : Int) := by omega
            go_wp2_with fail
            go_quiet (fail)
            go_wp2_with fail
            go_roundg (gk - 1)
            case measure => have := hq2.out; omega
            case rel =>
              refine ⟨j + 1, by omega, by go_num, hid (by have := hq2.out; omega), ?_⟩
              rw [tinTo_succ, ← hY.out, ← hm.out, show term a b i j = u64 (u64 (rd a i * rd b j) * 5) from if_pos hs]
              exact (hS.drewN _).set m _
          · have a6 : ¬ (5 : Int) ≤ (i : Int) + (j : Int) := by omega
            go_wp2_with fail
            go_quiet (fail)
            go_wp2_with fail
            go_roundg (gk - 1)
            case measure => have := hq2.out; omega
            case rel =>
              refine ⟨j + 1, by omega, by go_num, hid (by have := hq2.out; omega), ?_⟩
              rw [tinTo_succ, ← hY.out, ← hm.out, show term a b i j = u64 (rd a i * rd b j) from if_neg hs]
              exact (hS.drewN _).set m _
        · have hj5 : (j : Int) = 5 := by omega
          rw [hj5]
          obtain rfl : j = 5 := by omega
          clear hjlt hj5 hj
          go_wp2_with fail
          go_roundg (gk1 - 1)
          case measure => have := hq1.out; have := hgk.out; omega
          case rel =>
            refine ⟨i + 1, by omega, by go_num, hid (by have := hq1.out; omega), ?_⟩
            rw [toutTo_succ, ← hX.out, ← hY.out]
            exact hS
    · obtain rfl : i = 5 := by omega
      have hl5 : (ints .u64 (toutTo a b 5)).length = 5 := by rw [ints_length, toutTo_length]
      have hl5' : (ints .u64 (times a b)).length = 5 := by rw [ints_length, times_length]
      have HL := hid hl5
      have HL' := hid hl5'
      clear hl5 hl5' hi hlt
      go_wp2_with (first
        | (refine load_blk rfl 165 _ rfl (w.heap.size + 1 + 1 + 1) rfl 165 _ hS.s 5 87 arr73 HL.out info73 ?_)
        | (go_at_call 116; refine (carry_calls (toutTo a b 5) _ (toutTo_length _ _ _)).mono ?_; rintro e wx ⟨rfl, hb⟩)
        | (refine store_blk rfl 165 _ _ rfl (w.heap.size + 1 + 1) _ rfl rfl 165 _ (hS.r.belowAll hb) 5 info73 HL'.out (by simp) (ints_one _ _) ?_))
      refine bodyPost_ret (results_blk rfl _ _ (w.heap.size + 1 + 1) 165 _ 5 87 rfl ((hS.r.belowAll hb).setRow _) arr73 HL'.out info73) rfl ?_
      exact ⟨rfl, below_setRow (below_then hS.below (by have := hS.s.lt; omega) hb) (by omega) _⟩
end Go.Proofs.YtlikinglgegclaaDoor
/- A tag's arithmetic: bytes as parts. -/
namespace Go.Proofs.YtlikinglgegclaaDoor
open Go.RowKit Go.Cour
attribute [local go_sem] max2_int min2_int
/-- Bit i of bytes, where it stands in its part. -/
def pbit (b : List Int) (i : Nat) : Int := u64 (u64 (bits .and .u8 (rd b (i / 8) / 2 ^ (i % 8)) 1) * 2 ^ (i - 26 * min (i / 26) 4))
def partsTo (b : List Int) (n : Nat) : List Int := (List.range n).foldl (fun s i => s.set (min (i / 26) 4) (bits .or .u64 (rd s (min (i / 26) 4)) (pbit b i))) (List.replicate 5 0)
def parts (b : List Int) : List Int := partsTo b 136
theorem partsTo_succ (b : List Int) (n : Nat) : partsTo b (n + 1) = (partsTo b n).set (min (n / 26) 4) (bits .or .u64 (rd (partsTo b n) (min (n / 26) 4)) (pbit b n)) := foldl_succ' _ _ _
theorem partsTo_zero (b : List Int) : partsTo b 0 = List.replicate 5 0 := rfl
theorem partsTo_length (b : List Int) : ∀ n, (partsTo b n).length = 5
  | 0 => by simp [partsTo_zero]
  | n + 1 => by rw [partsTo_succ, List.length_set]; exact partsTo_length b n
theorem pbit_eq (b : List Int) (i m d r s : Nat) (hm : m = min (i / 26) 4) (hd : d = i / 8) (hr : r = i % 8) (hs : i = 26 * m + s) :
    pbit b i = u64 (u64 (bits .and .u8 (rd b d / 2 ^ r) 1) * 2 ^ s) := by
  have e : i - 26 * min (i / 26) 4 = s := by omega
  rw [pbit, e, ← hd, ← hr]
/-- What the blocks of a call of parts hold. -/
structure PS (w wr : World) (b s : List Int) : Prop where
  b : Blk wr w.heap.size 162 (ints .u8 b)
  r : Blk wr (w.heap.size + 1) 165 (ints .u64 (List.replicate 5 0))
  s : Blk wr (w.heap.size + 1 + 1) 165 (ints .u64 s)
  below : Below w.heap.size w wr
theorem PS.set {w wr : World} {b s : List Int} (h : PS w wr b s) (i : Nat) (x : Int) : PS w (wr.setCell ⟨w.heap.size + 1 + 1, i, none⟩ (.int .u64 x)).drew b (s.set i x) :=
  ⟨(h.b.setOther (by simp; try omega) _).drew, (h.r.setOther (by simp; try omega) _).drew, (h.s.setI i x).drew, (h.below.setCell (by simp; try omega) _).drew⟩
set_option maxHeartbeats 4000000 in
set_option maxRecDepth 100000 in
theorem parts_calls (b : List Int) (w : World) (hb : b.length = 17) :
    Calls Tryd.prog 113 #[.agg (ints .u8 b).toArray] w fun e w' => e = .returned (.agg (ints .u64 (parts b)).toArray) ∧ Below w.heap.size w w' := by
  have HB := hid hb
  clear hb
  go_enter Tryd.func113, Tryd.ntmps113
  go_wp2_with fail
  go_loopg [5] 136 (fun kq v5 wr => ∃ i : Nat, i ≤ 136 ∧ v5 = .int .i64 i ∧ Hd (kq + i = 136) ∧ PS w wr b (partsTo b i))
  case atStart =>
    refine ⟨0, by omega, rfl, hid rfl, ?_, ?_, ?_, ?_⟩
    · exact ((Blk.new w 162 (ints .u8 b)).alloc _).alloc _
    · exact (Blk.new' (w.alloc _) 165 (ints .u64 (List.replicate 5 0)) _ (by simp)).alloc _
    · exact Blk.new' ((w.alloc _).alloc _) 165 (ints .u64 (List.replicate 5 0)) _ (by simp)
    · exact (((Below.refl _ _).alloc (Nat.le_refl _) _).alloc (by simp) _).alloc (by simp; omega) _
  case round =>
    obtain ⟨i, hi, rfl, hq, hS⟩ := hrel
    by_cases hlt : i < 136
    · obtain ⟨m, hm, hm5⟩ : ∃ m : Nat, Hd (m = min (i / 26) 4) ∧ m < 5 := ⟨_, hid rfl, by omega⟩
      obtain ⟨q, hq26⟩ : ∃ q : Nat, Hd (q = i / 26) := ⟨_, hid rfl⟩
      obtain ⟨d, hd, hd17⟩ : ∃ d : Nat, Hd (d = i / 8) ∧ d < 17 := ⟨_, hid rfl, by omega⟩
      obtain ⟨r, hr, hr8⟩ : ∃ r : Nat, Hd (r = i % 8) ∧ r < 8 := ⟨_, hid rfl, by omega⟩
      obtain ⟨s, hs, hs64⟩ : ∃ s : Nat, Hd (i = 26 * m + s) ∧ s < 64 := ⟨i - 26 * m, hid (by have := hm.out; omega), by have := hm.out; omega⟩
      have cb := hS.b.cellI d (by have := HB.out; omega)
      have cs := hS.s.cellI m (by rw [partsTo_length]; exact hm5)
      have fs := hS.s.frozen m
      have he : Hd (partsTo b (i + 1) = (partsTo b i).set m (bits .or .u64 (rd (partsTo b i) m) (u64 (u64 (bits .and .u8 (rd b d / 2 ^ r) 1) * 2 ^ s)))) := hid (by
        rw [partsTo_succ, ← hm.out, pbit_eq b i m d r s hm.out hd.out hr.out hs.out])
      obtain ⟨Y, hY⟩ : ∃ Y, Hd (Y = partsTo b i) := ⟨_, hid rfl⟩
      rw [← hY.out] at hS cs he
      go_wp2_with fail
      have a1 : IntKind.i64.wrap ((i : Int) / 26) = (q : Int) := by
        have := hq26.out
        rw [IntWalk.i64_in _ (by omega)]
        omega
      have a2 : (if (4 : Int) < (q : Int) then (4 : Int) else (q : Int)) = (m : Int) := by
        have := hq26.out
        have := hm.out
        split <;> omega
      have a3 : IntKind.i64.wrap ((i : Int) / 8) = (d : Int) := by
        have := hd.out
        rw [IntWalk.i64_in _ (by omega)]
        omega
      have a4 : (i : Int).tmod 8 = (r : Int) := by
        have := hr.out
        rw [Int.tmod_eq_emod_of_nonneg (by omega)]
        omega
      have a5 : IntKind.i64.wrap (26 * (m : Int)) = 26 * (m : Int) := IntWalk.i64_in _ (by omega)
      have a6 : IntKind.i64.wrap ((i : Int) - 26 * (m : Int)) = (s : Int) := by
        have := hs.out
        rw [IntWalk.i64_in _ (by omega)]
        omega
      have a7 : (s : Int) ≤ 64 := by omega
      have a8 : (r : Int) ≤ 8 := by omega
      have a9 : (m : Int) < 5 := by omega
      have a10 : (d : Int) < 17 := by omega
      refine wp_region_still_tail 23 (by kernel_rfl) (by kernel_rfl) ?_
      simp only [List.take_succ_cons, List.take_zero, List.drop_succ_cons, List.drop_zero]
      change wpStill _ _ (World.drew _) (fun a' => wpList _ _ _ _ a' (World.drew _)) _ _
      repeat still_step
      refine wpStill_nil ?_
      change wpList _ _ _ _ _ _
      clear a1 a2 a3 a4 a5 a6 a7 a8 a9 a10
      go_wp2_with fail
      go_roundg (gk - 1)
      case measure => have := hq.out; omega
      case rel =>
        refine ⟨i + 1, by omega, by go_num, hid (by have := hq.out; omega), ?_⟩
        rw [he.out]
        exact hS.set m _
    · obtain rfl : i = 136 := by omega
      have hl5 : (ints .u64 (partsTo b 136)).length = 5 := by rw [ints_length, partsTo_length]
      have HL := hid hl5
      clear hl5 hi hlt
      go_wp2_with (first
        | (refine load_blk rfl 165 _ rfl (w.heap.size + 1 + 1) rfl 165 _ hS.s 5 87 arr73 HL.out info73 ?_)
        | (refine store_blk rfl 165 _ _ rfl (w.heap.size + 1) _ rfl rfl 165 _ hS.r 5 info73 HL.out (by simp) (ints_one _ _) ?_))
      refine bodyPost_ret (results_blk rfl _ _ (w.heap.size + 1) 165 _ 5 87 rfl (hS.r.setRow _) arr73 HL.out info73) rfl ?_
      exact ⟨rfl, below_setRow hS.below (by omega) _⟩
end Go.Proofs.YtlikinglgegclaaDoor
/- A tag's arithmetic: the least 128 bits of a number below the modulus. -/
namespace Go.Proofs.YtlikinglgegclaaDoor
open Go.RowKit Go.Cour
def more5 (a : List Int) : List Int × Int := carryTo (a.set 0 (u64 (rd a 0 + 5))) 5
def lowA (a : List Int) : List Int := if 0 < (more5 (carryN a 2)).2 then (more5 (carryN a 2)).1 else carryN a 2
def lowL (x : List Int) : Int := bits .or .u64 (bits .or .u64 (rd x 0) (u64 (rd x 1 * 67108864))) (u64 (rd x 2 * 4503599627370496))
def lowH (x : List Int) : Int := bits .or .u64 (bits .or .u64 (rd x 2 / 4096) (u64 (rd x 3 * 16384))) (u64 (rd x 4 * 1099511627776))
/-- What the blocks of a call of low hold. -/
structure LS (w wr : World) (H : Nat) (a m : List Int) : Prop where
  a : Blk wr w.heap.size 165 (ints .u64 a)
  m : Blk wr H 165 (ints .u64 m)
  below : Below w.heap.size w wr
  lt : w.heap.size < H
theorem LS.set {w wr : World} {H : Nat} {a m : List Int} (h : LS w wr H a m) (i : Nat) (x : Int) : LS w (wr.setCell ⟨H, i, none⟩ (.int .u64 x)) H a (m.set i x) :=
  ⟨h.a.setOther (by have := h.lt; simp; try omega) _, h.m.setI i x, h.below.setCell (by have := h.lt; simp; try omega) _, h.lt⟩
/-- The world when the second copy is laid. -/
def lowW (w wx : World) (C : List Int) : World := ((wx.setRow w.heap.size (ints .u64 C).toArray).alloc (.cells #[.int .u64 0, .int .u64 0, .int .u64 0, .int .u64 0, .int .u64 0] 165)).setRow wx.heap.size (ints .u64 C).toArray
theorem LS.start {w wx : World} {a C : List Int} (hb : Below (w.alloc (.cells (ints .u64 a).toArray 165)).heap.size (w.alloc (.cells (ints .u64 a).toArray 165)) wx) : LS w (lowW w wx C) wx.heap.size C C := by
  have h0 : Blk (w.alloc (.cells (ints .u64 a).toArray 165)) w.heap.size 165 (ints .u64 a) := Blk.new w 165 _
  have hs := hb.size
  simp at hs
  refine ⟨?_, ?_, ?_, by omega⟩
  · exact (((h0.belowAll hb).setRow _).alloc _).setRowOther (by omega) _
  · exact (Blk.new' (wx.setRow w.heap.size (ints .u64 C).toArray) 165 (ints .u64 (List.replicate 5 0)) _ (by simp)).setRow _
  · refine below_setRow ((below_setRow (below_then (((Below.refl _ _).alloc (Nat.le_refl _) _)) (by simp) hb) (Nat.le_refl _) _).alloc (by simp; omega) _) (by omega) _
theorem LS.cell0 {w wx : World} {a : List Int} (C : List Int) (hb : Below (w.alloc (.cells (ints .u64 a).toArray 165)).heap.size (w.alloc (.cells (ints .u64 a).toArray 165)) wx) (hC : C.length = 5) :
    (((wx.setRow w.heap.size (ints .u64 C).toArray).alloc (.cells #[.int .u64 0, .int .u64 0, .int .u64 0, .int .u64 0, .int .u64 0] 165)).setRow wx.heap.size (ints .u64 C).toArray).cell? ⟨wx.heap.size, 0, none⟩ = some (.int .u64 (rd C 0)) := (LS.start hb (C := C)).m.cellI 0 (by omega)
theorem LS.frozen0 {w wx : World} {a : List Int} (C : List Int) (hb : Below (w.alloc (.cells (ints .u64 a).toArray 165)).heap.size (w.alloc (.cells (ints .u64 a).toArray 165)) wx) :
    (((wx.setRow w.heap.size (ints .u64 C).toArray).alloc (.cells #[.int .u64 0, .int .u64 0, .int .u64 0, .int .u64 0, .int .u64 0] 165)).setRow wx.heap.size (ints .u64 C).toArray).frozen? ⟨wx.heap.size, 0, none⟩ = false := (LS.start hb (C := C)).m.frozen 0
set_option maxHeartbeats 4000000 in
set_option maxRecDepth 100000 in
theorem low_calls (a : List Int) (w : World) (ha : a.length = 5) :
    Calls Tryd.prog 115 #[.agg (ints .u64 a).toArray] w fun e w' => e = .returned (.tuple #[.int .u64 (lowL (lowA a)), .int .u64 (lowH (lowA a))]) ∧ Below w.heap.size w w' := by
  have HA := hid ha
  have hl5 : (ints .u64 a).length = 5 := by rw [ints_length]; exact ha
  have HL := hid hl5
  clear ha hl5
  have hb0 : Blk (w.alloc (.cells (ints .u64 a).toArray 165)) w.heap.size 165 (ints .u64 a) := Blk.new w 165 _
  obtain ⟨C, hC⟩ : ∃ C, Hd (C = carryN a 2) := ⟨_, hid rfl⟩
  have HC : Hd ((ints .u64 C).length = 5) := hid (by rw [ints_length, hC.out, carryN_length]; exact HA.out)
  have hC5 : Hd (C.length = 5) := hid (by rw [hC.out, carryN_length]; exact HA.out)
  go_enter Tryd.func115, Tryd.ntmps115
  go_wp2_with (first
    | (refine load_blk rfl 165 (.tmp 1) rfl w.heap.size rfl 165 _ hb0 5 87 arr73 HL.out info73 ?_)
    | (go_at_call 116; refine (carry_calls a _ HA.out).mono ?_; rintro e wx ⟨rfl, hb⟩; rw [← hC.out])
    | (refine store_blk rfl 165 (.tmp 1) (.tmp 8) rfl w.heap.size _ rfl rfl 165 _ (hb0.belowAll hb) 5 info73 HC.out HL.out (ints_one _ _) ?_)
    | (refine load_blk rfl 165 (.tmp 1) rfl w.heap.size rfl 165 _ ((hb0.belowAll hb).setRow (ints .u64 C)) 5 87 arr73 HC.out info73 ?_)
    | (refine store_blk rfl 165 (.tmp 4) (.tmp 9) rfl _ _ rfl rfl 165 _ (Blk.new' _ _ (ints .u64 (List.replicate 5 0)) _ (by simp)) 5 info73 HC.out (by simp) (ints_one _ _) ?_; have c0 := LS.cell0 C hb hC5.out; have f0 := LS.frozen0 C hb)
    | fail)
  have hS := (LS.start hb (C := C)).set 0 (u64 (rd C 0 + 5))
  unfold lowW at hS
  clear c0 f0 hb hb0 HL
  obtain ⟨M, hM⟩ : ∃ M, Hd (M = C.set 0 (u64 (rd C 0 + 5))) := ⟨_, hid rfl⟩
  have hMl : Hd (M.length = 5) := hid (by rw [hM.out, List.length_set]; exact hC5.out)
  rw [← hM.out] at hS
  obtain ⟨H, hH⟩ : ∃ H, H = wx.heap.size := ⟨_, rfl⟩
  rw [← hH] at hS ⊢
  clear hH
  go_loopg [5, 14] 5 (fun kq v5 v14 wr => ∃ j : Nat, j ≤ 5 ∧ v14 = .int .i64 j ∧ v5 = .int .u64 (carryTo M j).2 ∧ Hd (kq + j = 5) ∧ LS w wr H C (carryTo M j).1)
  case atStart => exact ⟨0, by omega, rfl, rfl, hid rfl, hS⟩
  case round =>
    clear hS
    obtain ⟨j, hj, rfl, rfl, hq2, hS⟩ := hrel
    obtain ⟨Y, o, hY⟩ : ∃ Y o, Hd ((carryTo M j) = (Y, o)) := ⟨_, _, hid rfl⟩
    rw [hY.out] at hS ⊢
    dsimp only at hS ⊢
    have hYl : Y.length = 5 := by have := carryTo_length M j; rw [hY.out] at this; rw [← hMl.out]; exact this
    by_cases hjlt : j < 5
    · have cj := hS.m.cellI j (by omega)
      have fj := hS.m.frozen j
      have cj2 := (hS.set j (u64 (rd Y j + o))).m.cellI j (by simp; omega)
      have fj2 := (hS.set j (u64 (rd Y j + o))).m.frozen j
      rw [rd_set', if_pos ⟨rfl, by omega⟩] at cj2
      have HYl := hid hYl
      clear hYl
      go_wp2_with fail
      go_roundg (gk - 1)
      case measure => have := hq2.out; omega
      case rel =>
        refine ⟨j + 1, by omega, by go_num, ?_, hid (by have := hq2.out; omega), ?_⟩
        · rw [carryTo_succ, hY.out]; rfl
        · rw [carryTo_succ, hY.out]; exact (hS.set j _).set j _
    · obtain rfl : j = 5 := by omega
      have HYl : Hd ((ints .u64 Y).length = 5) := hid (by rw [ints_length]; exact hYl)
      have hY5 := hid hYl
      clear hYl hjlt hj
      have hlow : Hd (lowA a = if 0 < o then Y else C) := hid (by
        rw [lowA, more5, ← hC.out, ← hM.out, hY.out])
      by_cases ho : 0 < o
      · have c0 := (hS.a.setRow (ints .u64 Y)).cellI 0 (by have := hY5.out; omega)
        have c1 := (hS.a.setRow (ints .u64 Y)).cellI 1 (by have := hY5.out; omega)
        have c2 := (hS.a.setRow (ints .u64 Y)).cellI 2 (by have := hY5.out; omega)
        have c3 := (hS.a.setRow (ints .u64 Y)).cellI 3 (by have := hY5.out; omega)
        have c4 := (hS.a.setRow (ints .u64 Y)).cellI 4 (by have := hY5.out; omega)
        have hcl : Hd (lowA a = Y) := hid (by rw [hlow.out, if_pos ho])
        go_wp2_with (first
          | (refine load_blk rfl 165 (.tmp 4) rfl H rfl 165 _ hS.m 5 87 arr73 HYl.out info73 ?_)
          | (refine store_blk rfl 165 (.tmp 1) (.tmp 35) rfl w.heap.size _ rfl rfl 165 _ hS.a 5 info73 HYl.out HC.out (ints_one _ _) ?_)
          | fail)
        go_quiet (fail)
        go_wp2_with fail
        go_ret2
        rw [hcl.out]
        exact ⟨rfl, below_drewN (below_setRow hS.below (Nat.le_refl _) _) _⟩
      · have c0 := hS.a.cellI 0 (by have := hC5.out; omega)
        have c1 := hS.a.cellI 1 (by have := hC5.out; omega)
        have c2 := hS.a.cellI 2 (by have := hC5.out; omega)
        have c3 := hS.a.cellI 3 (by have := hC5.out; omega)
        have c4 := hS.a.cellI 4 (by have := hC5.out; omega)
        have hcl : Hd (lowA a = C) := hid (by rw [hlow.out, if_neg ho])
        go_wp2_with fail
        go_quiet (fail)
        go_wp2_with fail
        go_ret2
        rw [hcl.out]
        exact ⟨rfl, below_drewN hS.below _⟩
end Go.Proofs.YtlikinglgegclaaDoor
/- A tag of bytes, by a key that is used once. -/
namespace Go.Proofs.YtlikinglgegclaaDoor
open Go.RowKit Go.Cour
attribute [local go_sem] max2_int min2_int
def clampA (s : List Int) (n : Nat) : List Int := (List.range n).foldl (fun s i => s.set (4 * i + 3) (bits .and .u8 (rd s (4 * i + 3)) 15)) s
def clampB (s : List Int) (n : Nat) : List Int := (List.range n).foldl (fun s i => s.set (4 * i + 4) (bits .and .u8 (rd s (4 * i + 4)) 252)) s
def rbytes (key : List Int) : List Int := clampB (clampA (key.take 16 ++ [0]) 4) 3
theorem clampA_succ (s : List Int) (n : Nat) : clampA s (n + 1) = (clampA s n).set (4 * n + 3) (bits .and .u8 (rd (clampA s n) (4 * n + 3)) 15) := foldl_succ' _ _ _
theorem clampB_succ (s : List Int) (n : Nat) : clampB s (n + 1) = (clampB s n).set (4 * n + 4) (bits .and .u8 (rd (clampB s n) (4 * n + 4)) 252) := foldl_succ' _ _ _
theorem clampA_length (s : List Int) : ∀ n, (clampA s n).length = s.length
  | 0 => rfl
  | n + 1 => by rw [clampA_succ, List.length_set]; exact clampA_length s n
theorem clampB_length (s : List Int) : ∀ n, (clampB s n).length = s.length
  | 0 => rfl
  | n + 1 => by rw [clampB_succ, List.length_set]; exact clampB_length s n
theorem info69 : (Tryd.prog.info? 162).map (·.size) = some 17 := by kernel_rfl
theorem arr69 : Tryd.prog.underlying 162 = some (.array 17 5) := by kernel_rfl
theorem info46 : (Tryd.prog.info? 125).map (·.size) = some 16 := by kernel_rfl
theorem arr46 : Tryd.prog.underlying 125 = some (.array 16 5) := by kernel_rfl
theorem sizeU8 : (Tryd.prog.info? 5).map (·.size) = some 1 := by kernel_rfl
theorem undBytesP : Tryd.prog.underlying 24 = some (.slice 5) := by kernel_rfl
theorem ix4 (i p : Nat) (h : i < 4) (hp : p = 4 * i + 3) (w : World) : (Instr.index 163 (.agg #[.int .i64 3, .int .i64 7, .int .i64 11, .int .i64 15]) (.int .i64 i)).run Tryd.prog w = .ok (.int .i64 p) w := by
  have h0 : (Instr.index 163 (.agg #[.int .i64 3, .int .i64 7, .int .i64 11, .int .i64 15]) (.int .i64 (0 : Nat))).run Tryd.prog w = .ok (.int .i64 (3 : Nat)) w := by kernel_rfl
  have h1 : (Instr.index 163 (.agg #[.int .i64 3, .int .i64 7, .int .i64 11, .int .i64 15]) (.int .i64 (1 : Nat))).run Tryd.prog w = .ok (.int .i64 (7 : Nat)) w := by kernel_rfl
  have h2 : (Instr.index 163 (.agg #[.int .i64 3, .int .i64 7, .int .i64 11, .int .i64 15]) (.int .i64 (2 : Nat))).run Tryd.prog w = .ok (.int .i64 (11 : Nat)) w := by kernel_rfl
  have h3 : (Instr.index 163 (.agg #[.int .i64 3, .int .i64 7, .int .i64 11, .int .i64 15]) (.int .i64 (3 : Nat))).run Tryd.prog w = .ok (.int .i64 (15 : Nat)) w := by kernel_rfl
  subst hp
  have h4 : i = 0 ∨ i = 1 ∨ i = 2 ∨ i = 3 := by omega
  rcases h4 with rfl | rfl | rfl | rfl
  · exact h0
  · exact h1
  · exact h2
  · exact h3
theorem ix3 (i p : Nat) (h : i < 3) (hp : p = 4 * i + 4) (w : World) : (Instr.index 164 (.agg #[.int .i64 4, .int .i64 8, .int .i64 12]) (.int .i64 i)).run Tryd.prog w = .ok (.int .i64 p) w := by
  have h0 : (Instr.index 164 (.agg #[.int .i64 4, .int .i64 8, .int .i64 12]) (.int .i64 (0 : Nat))).run Tryd.prog w = .ok (.int .i64 (4 : Nat)) w := by kernel_rfl
  have h1 : (Instr.index 164 (.agg #[.int .i64 4, .int .i64 8, .int .i64 12]) (.int .i64 (1 : Nat))).run Tryd.prog w = .ok (.int .i64 (8 : Nat)) w := by kernel_rfl
  have h2 : (Instr.index 164 (.agg #[.int .i64 4, .int .i64 8, .int .i64 12]) (.int .i64 (2 : Nat))).run Tryd.prog w = .ok (.int .i64 (12 : Nat)) w := by kernel_rfl
  subst hp
  have h4 : i = 0 ∨ i = 1 ∨ i = 2 := by omega
  rcases h4 with rfl | rfl | rfl
  · exact h0
  · exact h1
  · exact h2
/-- An element of an array value. -/
theorem ix5 (xs : List Int) (i : Nat) (h : i < 5) (hx : xs.length = 5) (w : World) : (Instr.index 165 (.agg (ints .u64 xs).toArray) (.int .i64 i)).run Tryd.prog w = .ok (.int .u64 (rd xs i)) w := by
  match xs, hx with
  | [x0, x1, x2, x3, x4], _ =>
    have h0 : (Instr.index 165 (.agg (ints .u64 [x0, x1, x2, x3, x4]).toArray) (.int .i64 (0 : Nat))).run Tryd.prog w = .ok (.int .u64 (rd [x0, x1, x2, x3, x4] 0)) w := by kernel_rfl
    have h1 : (Instr.index 165 (.agg (ints .u64 [x0, x1, x2, x3, x4]).toArray) (.int .i64 (1 : Nat))).run Tryd.prog w = .ok (.int .u64 (rd [x0, x1, x2, x3, x4] 1)) w := by kernel_rfl
    have h2 : (Instr.index 165 (.agg (ints .u64 [x0, x1, x2, x3, x4]).toArray) (.int .i64 (2 : Nat))).run Tryd.prog w = .ok (.int .u64 (rd [x0, x1, x2, x3, x4] 2)) w := by kernel_rfl
    have h3 : (Instr.index 165 (.agg (ints .u64 [x0, x1, x2, x3, x4]).toArray) (.int .i64 (3 : Nat))).run Tryd.prog w = .ok (.int .u64 (rd [x0, x1, x2, x3, x4] 3)) w := by kernel_rfl
    have h4 : (Instr.index 165 (.agg (ints .u64 [x0, x1, x2, x3, x4]).toArray) (.int .i64 (4 : Nat))).run Tryd.prog w = .ok (.int .u64 (rd [x0, x1, x2, x3, x4] 4)) w := by kernel_rfl
    have hh : i = 0 ∨ i = 1 ∨ i = 2 ∨ i = 3 ∨ i = 4 := by omega
    rcases hh with rfl | rfl | rfl | rfl | rfl
    · exact h0
    · exact h1
    · exact h2
    · exact h3
    · exact h4
/-- What the blocks of a call of Sum hold: the key, the tag, r. -/
structure SS (w wr : World) (key r : List Int) : Prop where
  k : Blk wr w.heap.size 27 (ints .u8 key)
  t : Blk wr (w.heap.size + 1) 125 (ints .u8 (List.replicate 16 0))
  r : Blk wr (w.heap.size + 1 + 1) 162 (ints .u8 r)
  below : Below w.heap.size w wr
  size : w.heap.size + 1 + 1 < wr.heap.size
theorem SS.set {w wr : World} {key r : List Int} (h : SS w wr key r) (i : Nat) (x : Int) : SS w (wr.setCell ⟨w.heap.size + 1 + 1, i, none⟩ (.int .u8 x)) key (r.set i x) :=
  ⟨h.k.setOther (by simp; try omega) _, h.t.setOther (by simp; try omega) _, h.r.setI i x, h.below.setCell (by simp; try omega) _, by simpa [World.setCell] using h.size⟩
theorem SS.row {w wr : World} {key r : List Int} (h : SS w wr key r) (r' : List Int) : SS w (wr.setRow (w.heap.size + 1 + 1) (ints .u8 r').toArray) key r' :=
  ⟨h.k.setRowOther (by omega) _, h.t.setRowOther (by omega) _, h.r.setRow _, below_setRow h.below (by omega) _, by simpa using h.size⟩
theorem SS.drew {w wr : World} {key r : List Int} (h : SS w wr key r) : SS w wr.drew key r := ⟨h.k.drew, h.t.drew, h.r.drew, h.below.drew, h.size⟩
theorem rcopy_eq (key : List Int) : (key.take 16).take 16 ++ (List.replicate 17 (0 : Int)).drop 16 = key.take 16 ++ [0] := by
  rw [List.take_take]; rfl
/-- One block of bytes, with its one behind. -/
def blockOf (ys : List Int) : List Int := (ys.take (min ys.length 16) ++ (List.replicate 17 0).drop (min ys.length 16)).set (min ys.length 16) 1
theorem blockOf_length (ys : List Int) : (blockOf ys).length = 17 := by simp [blockOf]; omega
def addTo (s p : List Int) (n : Nat) : List Int := (List.range n).foldl (fun s i => s.set i (u64 (rd s i + rd p i))) s
def absorb (s p ys : List Int) : List Int := times (addTo s (parts (blockOf ys)) 5) p
def sumTo (p bs : List Int) (n : Nat) : List Int := (List.range n).foldl (fun s j => absorb s p (bs.drop (16 * j))) (List.replicate 5 0)
theorem addTo_succ (s p : List Int) (n : Nat) : addTo s p (n + 1) = (addTo s p n).set n (u64 (rd (addTo s p n) n + rd p n)) := foldl_succ' _ _ _
theorem addTo_zero (s p : List Int) : addTo s p 0 = s := rfl
theorem addTo_length (s p : List Int) : ∀ n, (addTo s p n).length = s.length
  | 0 => rfl
  | n + 1 => by rw [addTo_succ, List.length_set]; exact addTo_length s p n
theorem sumTo_succ (p bs : List Int) (n : Nat) : sumTo p bs (n + 1) = absorb (sumTo p bs n) p (bs.drop (16 * n)) := foldl_succ' _ _ _
theorem sumTo_zero (p bs : List Int) : sumTo p bs 0 = List.replicate 5 0 := rfl
theorem sumTo_length (p bs : List Int) : ∀ n, (sumTo p bs n).length = 5
  | 0 => by simp [sumTo_zero]
  | n + 1 => by rw [sumTo_succ]; exact times_length _ _
def sumOf (p bs : List Int) : List Int := sumTo p bs ((bs.length + 15) / 16)
def halfOf (l h : Int) (i : Nat) : Int := if 8 ≤ i then h else l
def ostep (l h : Int) (key : List Int) (s : List Int × Int) (i : Nat) : List Int × Int :=
  (s.1.set i (u64 (u64 (bits .and .u64 (halfOf l h i / 2 ^ (8 * (i % 8))) 255 + u64 (rd key (16 + i))) + s.2) % 256),
   u64 (u64 (bits .and .u64 (halfOf l h i / 2 ^ (8 * (i % 8))) 255 + u64 (rd key (16 + i))) + s.2) / 256)
def outS (l h : Int) (key : List Int) (n : Nat) : List Int × Int := (List.range n).foldl (ostep l h key) (List.replicate 16 0, 0)
theorem outS_succ (l h : Int) (key : List Int) (n : Nat) : outS l h key (n + 1) = ostep l h key (outS l h key n) n := foldl_succ' _ _ _
theorem outS_zero (l h : Int) (key : List Int) : outS l h key 0 = (List.replicate 16 0, 0) := rfl
theorem outS_length (l h : Int) (key : List Int) : ∀ n, (outS l h key n).1.length = 16
  | 0 => by simp [outS_zero]
  | n + 1 => by rw [outS_succ]; simp only [ostep, List.length_set]; exact outS_length l h key n
/-- The tag of bytes. -/
def polySum (key bs : List Int) : List Int :=
  (outS (lowL (lowA (sumOf (parts (rbytes key)) bs))) (lowH (lowA (sumOf (parts (rbytes key)) bs))) key 16).1
theorem polySum_length (key bs : List Int) : (polySum key bs).length = 16 := outS_length _ _ _ _
/-- What they hold while the tag is laid. -/
structure SO (w wr : World) (H : Nat) (key out : List Int) : Prop where
  k : Blk wr w.heap.size 27 (ints .u8 key)
  t : Blk wr (w.heap.size + 1) 125 (ints .u8 (List.replicate 16 0))
  o : Blk wr H 125 (ints .u8 out)
  below : Below w.heap.size w wr
  lt : w.heap.size + 1 < H
theorem SO.set {w wr : World} {H : Nat} {key out : List Int} (h : SO w wr H key out) (i : Nat) (x : Int) : SO w (wr.setCell ⟨H, i, none⟩ (.int .u8 x)) H key (out.set i x) := by
  have h2 := h.lt
  exact ⟨h.k.setOther (by simp; omega) _, h.t.setOther (by simp; omega) _, h.o.setI i x, h.below.setCell (by simp; omega) _, h2⟩
theorem SO.drewN {w wr : World} {H : Nat} {key out : List Int} (h : SO w wr H key out) (n : Nat) : SO w (wr.drewN n) H key out :=
  ⟨h.k.drewN n, h.t.drewN n, h.o.drewN n, below_drewN h.below n, h.lt⟩
/-- What they hold while the bytes are taken in. -/
structure SM (w wr : World) (G : Nat) (key p s : List Int) : Prop where
  k : Blk wr w.heap.size 27 (ints .u8 key)
  t : Blk wr (w.heap.size + 1) 125 (ints .u8 (List.replicate 16 0))
  p : Blk wr G 165 (ints .u64 p)
  s : Blk wr (G + 1) 165 (ints .u64 s)
  below : Below w.heap.size w wr
  lt : w.heap.size + 1 + 1 < G
  size : G + 1 < wr.heap.size
theorem SM.start {w wr wx : World} {key Z p : List Int} (h : SS w wr key Z) (hb : Below wr.heap.size wr wx) :
    SM w (((wx.alloc (.cells (ints .u64 (List.replicate 5 0)).toArray 165)).setRow wx.heap.size (ints .u64 p).toArray).alloc (.cells (ints .u64 (List.replicate 5 0)).toArray 165)) wx.heap.size key p (List.replicate 5 0) := by
  have h1 := h.size
  have h2 := hb.size
  refine ⟨?_, ?_, ?_, ?_, ?_, by omega, by simp⟩
  · exact (((h.k.belowAll hb).alloc _).setRowOther (by omega) _).alloc _
  · exact (((h.t.belowAll hb).alloc _).setRowOther (by omega) _).alloc _
  · exact ((Blk.new wx 165 _).setRow _).alloc _
  · exact Blk.new' _ 165 _ _ (by simp)
  · exact (below_setRow ((below_then h.below (by omega) hb).alloc (by omega) _) (by omega) _).alloc (by simp; omega) _
theorem SM.tmp {w wr : World} {G : Nat} {key p s : List Int} (h : SM w wr G key p s) (L : List Int) :
    SM w ((wr.alloc (.cells (ints .u8 (List.replicate 17 0)).toArray 162)).setRow wr.heap.size (ints .u8 L).toArray) G key p s := by
  have h1 := h.size
  have h2 := h.lt
  exact ⟨(h.k.alloc _).setRowOther (by omega) _, (h.t.alloc _).setRowOther (by omega) _, (h.p.alloc _).setRowOther (by omega) _, (h.s.alloc _).setRowOther (by omega) _, below_setRow (h.below.alloc (by omega) _) (by omega) _, h2, by simp; omega⟩
theorem SM.setFar {w wr : World} {G : Nat} {key p s : List Int} (h : SM w wr G key p s) (g i : Nat) (v : Value) (hg : G + 1 < g) : SM w (wr.setCell ⟨g, i, none⟩ v) G key p s := by
  have h2 := h.lt
  exact ⟨h.k.setOther (by simp; omega) _, h.t.setOther (by simp; omega) _, h.p.setOther (by simp; omega) _, h.s.setOther (by simp; omega) _, h.below.setCell (by simp; omega) _, h2, by simpa [World.setCell] using h.size⟩
theorem SM.belowAll {w wr wx : World} {G : Nat} {key p s : List Int} (h : SM w wr G key p s) (hb : Below wr.heap.size wr wx) : SM w wx G key p s := by
  have h2 := h.lt
  have h3 := h.size
  have h4 := hb.size
  exact ⟨h.k.belowAll hb, h.t.belowAll hb, h.p.belowAll hb, h.s.belowAll hb, below_then h.below (by omega) hb, h2, by omega⟩
theorem SM.set {w wr : World} {G : Nat} {key p s : List Int} (h : SM w wr G key p s) (i : Nat) (x : Int) : SM w (wr.setCell ⟨G + 1, i, none⟩ (.int .u64 x)) G key p (s.set i x) := by
  have h2 := h.lt
  exact ⟨h.k.setOther (by simp; omega) _, h.t.setOther (by simp; omega) _, h.p.setOther (by simp) _, h.s.setI i x, h.below.setCell (by simp; omega) _, h2, by simpa [World.setCell] using h.size⟩
theorem SM.row {w wr : World} {G : Nat} {key p s : List Int} (h : SM w wr G key p s) (s' : List Int) : SM w (wr.setRow (G + 1) (ints .u64 s').toArray) G key p s' := by
  have h2 := h.lt
  exact ⟨h.k.setRowOther (by omega) _, h.t.setRowOther (by omega) _, h.p.setRowOther (by omega) _, h.s.setRow _, below_setRow h.below (by omega) _, h2, by simpa using h.size⟩
theorem SO.start {w wr wx : World} {G : Nat} {key p s : List Int} (h : SM w wr G key p s) (hb : Below wr.heap.size wr wx) : SO w (wx.alloc (.cells (ints .u8 (List.replicate 16 0)).toArray 125)) wx.heap.size key (List.replicate 16 0) := by
  have h1 := h.belowAll hb
  have h2 := h1.lt
  have h3 := h1.size
  exact ⟨h1.k.alloc _, h1.t.alloc _, Blk.new wx 125 _, h1.below.alloc (by omega) _, by omega⟩
set_option maxHeartbeats 4000000 in
set_option maxRecDepth 100000 in
theorem sum_calls (key bs : List Int) (A : Option Addr) (n c : Nat) (w : World) (hk : key.length = 32) (hn : n = bs.length) (hc : n ≤ c) (hr : Rd w A .u8 bs) (hl : n ≤ 1000000) :
    Calls Tryd.prog 108 #[.agg (ints .u8 key).toArray, .slice A n c] w fun e w' => e = .returned (.agg (ints .u8 (polySum key bs)).toArray) ∧ Below w.heap.size w w' := by
  have HK := hid hk
  have HN := hid hn
  have HR := hid hr
  clear hk hn hr
  have hb0 : SS w (((w.alloc (.cells (ints .u8 key).toArray 27)).alloc (.cells (ints .u8 (List.replicate 16 0)).toArray 125)).alloc (.cells (ints .u8 (List.replicate 17 0)).toArray 162)) key (List.replicate 17 0) := by
    refine ⟨?_, ?_, ?_, ?_, ?_⟩
    · exact ((Blk.new w 27 (ints .u8 key)).alloc _).alloc _
    · exact (Blk.new' (w.alloc _) 125 (ints .u8 (List.replicate 16 0)) _ (by simp)).alloc _
    · exact Blk.new' ((w.alloc _).alloc _) 162 (ints .u8 (List.replicate 17 0)) _ (by simp)
    · exact (((Below.refl _ _).alloc (Nat.le_refl _) _).alloc (by simp) _).alloc (by simp; omega) _
    · simp
  go_enter Tryd.func108, Tryd.ntmps108
  go_wp2_with fail
  refine wp_region_still_tail 2 (by kernel_rfl) (by kernel_rfl) ?_
  simp only [List.take_succ_cons, List.take_zero, List.drop_succ_cons, List.drop_zero]
  change wpStill _ _ (World.drew _) (fun a' => wpList _ _ _ _ a' (World.drew _)) _ _
  repeat still_step
  refine wpStill_nil ?_
  change wpList _ _ _ _ _ _
  refine copy_blk rfl (.tmp 22) (.tmp 23) 24 24 rfl 5 undBytesP sizeU8 (w.heap.size + 1 + 1) 17 17 rfl ⟨w.heap.size, 0, none⟩ 16 32 rfl 162 .u8 (List.replicate 17 0) (key.take 16) 16 hb0.r.drew ((Rd.ofBlk hb0.k).take 16).drew (by have := HK.out; simp; omega) rfl (by simp) ?_
  rw [rcopy_eq]
  have hb1 := hb0.drew.row (key.take 16 ++ [0])
  clear hb0
  obtain ⟨R0, hR0⟩ : ∃ R, Hd (R = key.take 16 ++ [0]) := ⟨_, hid rfl⟩
  have hR0l : Hd (R0.length = 17) := hid (by rw [hR0.out]; have := HK.out; simp; omega)
  rw [← hR0.out] at hb1 ⊢
  go_wp2_with fail
  go_loopg [26] 4 (fun kq v26 wr => ∃ i : Nat, i ≤ 4 ∧ v26 = .int .i64 i ∧ Hd (kq + i = 4) ∧ SS w wr key (clampA R0 i))
  case atStart => exact ⟨0, by omega, rfl, hid rfl, hb1⟩
  case round =>
    clear hb1
    obtain ⟨i, hi, rfl, hq, hS⟩ := hrel
    obtain ⟨Y, hY⟩ : ∃ Y, Hd (Y = clampA R0 i) := ⟨_, hid rfl⟩
    have hYl : Hd (Y.length = 17) := hid (by rw [hY.out, clampA_length]; exact hR0l.out)
    rw [← hY.out] at hS
    by_cases hlt : i < 4
    · obtain ⟨p, hp, hp17⟩ : ∃ p : Nat, Hd (p = 4 * i + 3) ∧ p < 17 := ⟨_, hid rfl, by omega⟩
      have cp := hS.r.cellI p (by have := hYl.out; omega)
      have fp := hS.r.frozen p
      have ix := ix4 i p hlt hp.out
      have a1 : (p : Int) < 17 := by omega
      go_wp2_with fail
      go_roundg (gk - 1)
      case measure => have := hq.out; omega
      case rel =>
        refine ⟨i + 1, by omega, by go_num, hid (by have := hq.out; omega), ?_⟩
        rw [clampA_succ, ← hY.out, ← hp.out]
        exact hS.set p _
    · obtain rfl : i = 4 := by omega
      clear hlt hi
      go_wp2_with fail
      obtain ⟨wo, rfl⟩ : ∃ wo : World, wo = wr := ⟨_, rfl⟩
      go_loopg [36] 3 (fun kq v36 wr => ∃ i : Nat, i ≤ 3 ∧ v36 = .int .i64 i ∧ Hd (kq + i = 3) ∧ SS w wr key (clampB Y i))
      case atStart => exact ⟨0, by omega, rfl, hid rfl, hS⟩
      case round =>
        clear hS
        obtain ⟨i, hi, rfl, hq, hS⟩ := hrel
        obtain ⟨Z, hZ⟩ : ∃ Z, Hd (Z = clampB Y i) := ⟨_, hid rfl⟩
        have hZl : Hd (Z.length = 17) := hid (by rw [hZ.out, clampB_length]; exact hYl.out)
        rw [← hZ.out] at hS
        by_cases hlt : i < 3
        · obtain ⟨p, hp, hp17⟩ : ∃ p : Nat, Hd (p = 4 * i + 4) ∧ p < 17 := ⟨_, hid rfl, by omega⟩
          have cp := hS.r.cellI p (by have := hZl.out; omega)
          have fp := hS.r.frozen p
          have ix := ix3 i p hlt hp.out
          have a1 : (p : Int) < 17 := by omega
          go_wp2_with fail
          go_roundg (gk - 1)
          case measure => have := hq.out; omega
          case rel =>
            refine ⟨i + 1, by omega, by go_num, hid (by have := hq.out; omega), ?_⟩
            rw [clampB_succ, ← hZ.out, ← hp.out]
            exact hS.set p _
        · obtain rfl : i = 3 := by omega
          clear hlt hi
          have hZr : Hd (Z = rbytes key) := hid (by rw [hZ.out, hY.out, hR0.out]; rfl)
          have hZ17 : Hd ((ints .u8 Z).length = 17) := hid (by rw [ints_length]; exact hZl.out)
          have hP5 : Hd ((ints .u64 (parts Z)).length = 5) := hid (by rw [ints_length]; exact partsTo_length _ _)
          go_wp2_with (first
            | (refine load_blk rfl 162 (.tmp 5) rfl (w.heap.size + 1 + 1) rfl 162 _ hS.r 17 5 arr69 hZ17.out info69 ?_)
            | (go_at_call 113; refine (parts_calls Z _ hZl.out).mono ?_; rintro e wx ⟨rfl, hb⟩)
            | (refine store_blk rfl 165 (.tmp 10) (.tmp 46) rfl wx.heap.size _ rfl rfl 165 _ (Blk.new wx 165 (ints .u64 (List.replicate 5 0))) 5 info73 hP5.out (by simp) (ints_one _ _) ?_)
            | fail)
          have hM := SM.start hS hb (p := parts Z)
          clear hS hb hZ17 hP5
          obtain ⟨G, hG⟩ : ∃ H, H = wx.heap.size := ⟨_, rfl⟩
          rw [← hG] at hM ⊢
          clear hG
          obtain ⟨P, hP⟩ : ∃ P, Hd (P = parts Z) := ⟨_, hid rfl⟩
          have hPl : Hd (P.length = 5) := hid (by rw [hP.out]; exact partsTo_length _ _)
          rw [← hP.out] at hM ⊢
          go_loopg [1] (n + 16) (fun kq v1 wr => ∃ (j n' c' : Nat) (A' : Option Addr), v1 = .slice A' n' c' ∧ Hd (kq + 16 * j = n + 16) ∧ n' ≤ n ∧ Hd (n' = n - 16 * j ∧ 16 * j < n + 16) ∧ n' ≤ c' ∧ Hd (Rd w A' .u8 (bs.drop (16 * j))) ∧ SM w wr G key P (sumTo P bs j))
          case atStart => exact ⟨0, n, c, A, rfl, hid rfl, Nat.le_refl _, hid ⟨by omega, by omega⟩, hc, hid HR.out, hM⟩
          case round =>
            clear hM
            obtain ⟨j, n', c', A', rfl, hq, hn', hj, hc', hR, hM⟩ := hrel
            by_cases hlt : 0 < n'
            · have hd1 : decide ((0 : Int) < n') = true := by simp; omega
              obtain ⟨ys, hys⟩ : ∃ ys, Hd (ys = bs.drop (16 * j)) := ⟨_, hid rfl⟩
              have hyl : Hd (ys.length = n') := hid (by rw [hys.out, List.length_drop, ← HN.out]; exact hj.out.1.symm)
              rw [← hys.out] at hR
              obtain ⟨g, o, rfl⟩ := hR.out.at (by rw [hyl.out]; exact hlt)
              obtain ⟨k, hk, hk17⟩ : ∃ k : Nat, Hd (k = min n' 16) ∧ k < 17 := ⟨_, hid rfl, by omega⟩
              have ak : (if (16 : Int) < (n' : Int) then (16 : Int) else (n' : Int)) = (k : Int) := by
                have := hk.out
                split <;> omega
              have ak17 : (k : Int) < 17 := by omega
              obtain ⟨L, hL⟩ : ∃ L, Hd (L = ys.take k ++ (List.replicate 17 (0 : Int)).drop k) := ⟨_, hid rfl⟩
              have hLl : Hd (L.length = 17) := hid (by rw [hL.out]; have := hk.out; have := hyl.out; simp; omega)
              have hLb : Hd (L.set k 1 = blockOf ys) := hid (by rw [hL.out, blockOf, hyl.out, ← hk.out])
              have hL17 : Hd ((ints .u8 (L.set k 1)).length = 17) := hid (by rw [ints_length, List.length_set]; exact hLl.out)
              have hR0 := (Blk.new wr 162 (ints .u8 (List.replicate 17 0)))
              go_wp2_with (first
                | (refine copy_blk rfl (.tmp 55) (.tmp 56) 24 24 rfl 5 undBytesP sizeU8 wr.heap.size 16 17 rfl ⟨g, o, none⟩ n' c' rfl 162 .u8 (List.replicate 17 0) ys k hR0 ((hR.out.below hM.below).alloc _) hyl.out hk.out (by have := hk.out; simp; omega) ?_; rw [← hL.out]; generalize hW : World.setRow _ _ _ = W; have hMW : SM w W G key P (sumTo P bs j) := hW ▸ hM.tmp L; have hxW : Blk W wr.heap.size 162 (ints .u8 L) := hW ▸ hR0.setRow _; clear hW; have cx := hxW.cellI k (by rw [hLl.out]; exact hk17); have fx := hxW.frozen k)
                | (refine load_blk rfl 162 (.tmp 12) rfl wr.heap.size rfl 162 _ (hxW.setI k 1) 17 5 arr69 hL17.out info69 ?_)
                | (go_at_call 113; refine (parts_calls (L.set k 1) _ (by rw [List.length_set]; exact hLl.out)).mono ?_; rintro e wx2 ⟨rfl, hb2⟩)
                | fail)
              have hM2 := (hMW.setFar wr.heap.size k (.int .u8 1) hM.size).belowAll hb2
              clear hM hMW hb2 hxW cx fx hR0 hL17
              obtain ⟨B, hB⟩ : ∃ B, Hd (B = parts (L.set k 1)) := ⟨_, hid rfl⟩
              have hBl : Hd (B.length = 5) := hid (by rw [hB.out]; exact partsTo_length _ _)
              rw [← hB.out]
              obtain ⟨S, hS⟩ : ∃ S, Hd (S = sumTo P bs j) := ⟨_, hid rfl⟩
              have hSl : Hd (S.length = 5) := hid (by rw [hS.out]; exact sumTo_length _ _ _)
              rw [← hS.out] at hM2
              have hSn : Hd (sumTo P bs (j + 1) = times (addTo S B 5) P) := hid (by
                rw [sumTo_succ, ← hS.out, absorb, ← hys.out, ← hLb.out, ← hB.out])
              obtain ⟨gk1, hgk⟩ : ∃ g : Nat, Hd (g = gk) := ⟨gk, hid rfl⟩
              have hq1 : Hd (gk1 + 16 * j = n + 16) := hid (by rw [hgk.out]; exact hq.out)
              obtain ⟨wo2, rfl⟩ : ∃ wo : World, wo = wr := ⟨_, rfl⟩
              go_loopg [61] 5 (fun kq v61 wr => ∃ i : Nat, i ≤ 5 ∧ v61 = .int .i64 i ∧ Hd (kq + i = 5) ∧ SM w wr G key P (addTo S B i))
              case atStart => exact ⟨0, by omega, rfl, hid rfl, by rw [addTo_zero]; exact hM2⟩
              case round =>
                clear hM2
                obtain ⟨i, hi, rfl, hq2, hM⟩ := hrel
                obtain ⟨T, hT⟩ : ∃ T, Hd (T = addTo S B i) := ⟨_, hid rfl⟩
                have hTl : Hd (T.length = 5) := hid (by rw [hT.out, addTo_length]; exact hSl.out)
                rw [← hT.out] at hM
                by_cases hlt5 : i < 5
                · have ci := hM.s.cellI i (by have := hTl.out; omega)
                  have fi := hM.s.frozen i
                  have ix := ix5 B i hlt5 hBl.out
                  have ai : (i : Int) < 5 := by omega
                  go_wp2_with fail
                  go_roundg (gk - 1)
                  case measure => have := hq2.out; omega
                  case rel =>
                    refine ⟨i + 1, by omega, by go_num, hid (by have := hq2.out; omega), ?_⟩
                    rw [addTo_succ, ← hT.out]
                    exact hM.set i _
                · have hi5 : (i : Int) = 5 := by omega
                  rw [hi5]
                  obtain rfl : i = 5 := by omega
                  clear hlt5 hi5 hi
                  have hT5 : Hd ((ints .u64 T).length = 5) := hid (by rw [ints_length]; exact hTl.out)
                  have hP5 : Hd ((ints .u64 P).length = 5) := hid (by rw [ints_length]; exact hPl.out)
                  have hX5 : Hd ((ints .u64 (times T P)).length = 5) := hid (by rw [ints_length]; exact times_length _ _)
                  go_wp2_with (first
                    | (refine load_blk rfl 165 (.tmp 11) rfl (G + 1) rfl 165 _ hM.s 5 87 arr73 hT5.out info73 ?_)
                    | (refine load_blk rfl 165 (.tmp 10) rfl G rfl 165 _ hM.p 5 87 arr73 hP5.out info73 ?_)
                    | (go_at_call 114; refine (times_calls T P _ hTl.out hPl.out).mono ?_; rintro e wx3 ⟨rfl, hb3⟩; have hM3 := hM.belowAll hb3)
                    | (refine store_blk rfl 165 (.tmp 11) (.tmp 74) rfl (G + 1) _ rfl rfl 165 _ hM3.s 5 info73 hX5.out hT5.out (ints_one _ _) ?_)
                    | fail)
                  all_goals
                    go_roundg (gk1 - 16)
                    case measure => have := hq1.out; have := hj.out; have := hgk.out; omega
                    case rel =>
                      have hq1' := hq1.out
                      have hj' := hj.out
                      have hk' := hk.out
                      have hd := hR.out.drop k c' (by rw [hyl.out]; omega) (by rw [hyl.out]; exact hc')
                      have hdr : ys.drop k = bs.drop (16 * (j + 1)) := by
                        rw [hys.out, List.drop_drop]
                        by_cases h16 : n' < 16
                        · rw [List.drop_eq_nil_of_le (by rw [← HN.out]; omega), List.drop_eq_nil_of_le (by rw [← HN.out]; omega)]
                        · rw [show 16 * j + k = 16 * (j + 1) by omega]
                      rw [hdr] at hd
                      refine ⟨j + 1, n' - k, c' - k, _, ?_, hid (by omega), by omega, hid ⟨by omega, by omega⟩, by omega, hid hd, ?_⟩
                      · first
                          | (rw [if_neg (by assumption)]; simp [add_lit]; done)
                          | (rw [if_pos (by assumption)]; simp; done)
                          | (simp [add_lit, *]; done)
                      · rw [hSn.out, ← hT.out]; exact hM3.row _
            · obtain rfl : n' = 0 := by omega
              have hd1 : decide ((0 : Int) < ((0 : Nat) : Int)) = false := by decide
              obtain ⟨S, hS⟩ : ∃ S, Hd (S = sumOf P bs) := ⟨_, hid rfl⟩
              have hSj : Hd (sumTo P bs j = S) := hid (by
                have := hj.out
                rw [hS.out, sumOf, show (bs.length + 15) / 16 = j by rw [← HN.out]; omega])
              have hSl : Hd (S.length = 5) := hid (by rw [← hSj.out]; exact sumTo_length _ _ _)
              have hS5 : Hd ((ints .u64 S).length = 5) := hid (by rw [ints_length]; exact hSl.out)
              rw [hSj.out] at hM
              go_wp2_with (first
                | (refine load_blk rfl 165 (.tmp 11) rfl (G + 1) rfl 165 _ hM.s 5 87 arr73 hS5.out info73 ?_)
                | (go_at_call 115; refine (low_calls S _ hSl.out).mono ?_; rintro e wx2 ⟨rfl, hb2⟩)
                | fail)
              have hO := SO.start hM hb2
              clear hM hb2
              obtain ⟨l, hl_⟩ : ∃ l, Hd (l = lowL (lowA S)) := ⟨_, hid rfl⟩
              obtain ⟨h, hh_⟩ : ∃ h, Hd (h = lowH (lowA S)) := ⟨_, hid rfl⟩
              have hfin : Hd (polySum key bs = (outS l h key 16).1) := hid (by
                rw [polySum, ← hZr.out, ← hP.out, ← hS.out, ← hl_.out, ← hh_.out])
              rw [← hl_.out, ← hh_.out]
              obtain ⟨H, hH⟩ : ∃ H, H = wx2.heap.size := ⟨_, rfl⟩
              rw [← hH] at hO ⊢
              clear hH
              obtain ⟨wo2, rfl⟩ : ∃ wo : World, wo = wr := ⟨_, rfl⟩
              go_loopg [18, 80] 16 (fun kq v18 v80 wr => ∃ i : Nat, i ≤ 16 ∧ v80 = .int .i64 i ∧ v18 = .int .u64 (outS l h key i).2 ∧ Hd (kq + i = 16) ∧ SO w wr H key (outS l h key i).1)
              case atStart => exact ⟨0, by omega, rfl, rfl, hid rfl, hO⟩
              case round =>
                clear hO
                obtain ⟨i, hi, rfl, rfl, hq2, hO⟩ := hrel
                obtain ⟨Yo, ov, hY⟩ : ∃ Y o, Hd (outS l h key i = (Y, o)) := ⟨_, _, hid rfl⟩
                rw [hY.out] at hO ⊢
                dsimp only at hO ⊢
                have hYl : Hd (Yo.length = 16) := hid (by have := outS_length l h key i; rw [hY.out] at this; exact this)
                by_cases hlt16 : i < 16
                · obtain ⟨r, hr, hr8⟩ : ∃ r : Nat, Hd (r = i % 8) ∧ r < 8 := ⟨_, hid rfl, by omega⟩
                  have ck := hO.k.cellI (16 + i) (by have := HK.out; omega)
                  have co := hO.o.cellI i (by have := hYl.out; omega)
                  have fo := hO.o.frozen i
                  have a4 : (i : Int).tmod 8 = (r : Int) := by
                    have := hr.out
                    rw [Int.tmod_eq_emod_of_nonneg (by omega)]
                    omega
                  have a5 : IntKind.i64.wrap (8 * (r : Int)) = 8 * (r : Int) := IntWalk.i64_in _ (by omega)
                  have a8 : 8 * (r : Int) ≤ 64 := by omega
                  have a8' : 0 ≤ 8 * (r : Int) := by omega
                  have a9 : (i : Int) < 16 := by omega
                  have a10 : (16 : Int) + (i : Int) < 32 := by omega
                  have a11 : IntKind.i64.wrap (16 + (i : Int)) = 16 + (i : Int) := IntWalk.i64_in _ (by omega)
                  by_cases h8 : 8 ≤ i
                  · have a12 : (8 : Int) ≤ (i : Int) := by omega
                    have hhalf : Hd (halfOf l h i = h) := hid (if_pos h8)
                    go_wp2_with fail
                    go_quiet (fail)
                    clear a4 a5 a8 a8' a10 a11
                    go_wp2_with fail
                    go_roundg (gk - 1)
                    case measure => have := hq2.out; omega
                    case rel =>
                      refine ⟨i + 1, by omega, by go_num, ?_, hid (by have := hq2.out; omega), ?_⟩
                      · rw [outS_succ, hY.out, ostep, hhalf.out, ← hr.out]; rfl
                      · rw [outS_succ, hY.out, ostep, hhalf.out, ← hr.out]; exact (hO.drewN _).set i _
                  · have a12 : ¬ (8 : Int) ≤ (i : Int) := by omega
                    have hhalf : Hd (halfOf l h i = l) := hid (if_neg h8)
                    go_wp2_with fail
                    go_quiet (fail)
                    clear a4 a5 a8 a8' a10 a11
                    go_wp2_with fail
                    go_roundg (gk - 1)
                    case measure => have := hq2.out; omega
                    case rel =>
                      refine ⟨i + 1, by omega, by go_num, ?_, hid (by have := hq2.out; omega), ?_⟩
                      · rw [outS_succ, hY.out, ostep, hhalf.out, ← hr.out]; rfl
                      · rw [outS_succ, hY.out, ostep, hhalf.out, ← hr.out]; exact (hO.drewN _).set i _
                · obtain rfl : i = 16 := by omega
                  clear hlt16 hi
                  have hl16 : Hd ((ints .u8 Yo).length = 16) := hid (by rw [ints_length]; exact hYl.out)
                  go_wp2_with (first
                    | (refine load_blk rfl 125 (.tmp 17) rfl H rfl 125 _ hO.o 16 5 arr46 hl16.out info46 ?_)
                    | (refine store_blk rfl 125 (.tmp 4) (.tmp 108) rfl (w.heap.size + 1) _ rfl rfl 125 _ hO.t 16 info46 hl16.out (by simp) (ints_one _ _) ?_)
                    | fail)
                  refine bodyPost_ret (results_blk rfl _ _ (w.heap.size + 1) 125 _ 16 5 rfl (hO.t.setRow _) arr46 hl16.out info46) rfl ?_
                  exact ⟨by rw [hfin.out, hY.out], below_setRow hO.below (by omega) _⟩
end Go.Proofs.YtlikinglgegclaaDoor
/- The stream: a word, a turn, a quarter of a round. -/
namespace Go.Proofs.YtlikinglgegclaaDoor
open Go.RowKit Go.Cour
/-- x turned to the left by k. -/
def rotl (k : Nat) (x : Int) : Int := bits .or .u32 (x * 2 ^ k % 4294967296) (x / 2 ^ (32 - k))
theorem rotl16_calls (x : Int) (w : World) (h : 0 ≤ x) (h' : x < 4294967296) :
    Calls Tryd.prog 110 #[.int .u32 x, .int .i64 16] w fun e w' => e = .returned (.int .u32 (rotl 16 x)) ∧ w' = w := by
  have b1 : bits .and .u64 16 31 = 16 := by decide
  go_enter Tryd.func110, Tryd.ntmps110
  go_wp2
  go_ret
  exact ⟨rfl, rfl⟩
theorem rotl12_calls (x : Int) (w : World) (h : 0 ≤ x) (h' : x < 4294967296) :
    Calls Tryd.prog 110 #[.int .u32 x, .int .i64 12] w fun e w' => e = .returned (.int .u32 (rotl 12 x)) ∧ w' = w := by
  have b1 : bits .and .u64 12 31 = 12 := by decide
  go_enter Tryd.func110, Tryd.ntmps110
  go_wp2
  go_ret
  exact ⟨rfl, rfl⟩
theorem rotl8_calls (x : Int) (w : World) (h : 0 ≤ x) (h' : x < 4294967296) :
    Calls Tryd.prog 110 #[.int .u32 x, .int .i64 8] w fun e w' => e = .returned (.int .u32 (rotl 8 x)) ∧ w' = w := by
  have b1 : bits .and .u64 8 31 = 8 := by decide
  go_enter Tryd.func110, Tryd.ntmps110
  go_wp2
  go_ret
  exact ⟨rfl, rfl⟩
theorem rotl7_calls (x : Int) (w : World) (h : 0 ≤ x) (h' : x < 4294967296) :
    Calls Tryd.prog 110 #[.int .u32 x, .int .i64 7] w fun e w' => e = .returned (.int .u32 (rotl 7 x)) ∧ w' = w := by
  have b1 : bits .and .u64 7 31 = 7 := by decide
  go_enter Tryd.func110, Tryd.ntmps110
  go_wp2
  go_ret
  exact ⟨rfl, rfl⟩

def qadd (xs : List Int) (a b : Nat) : List Int := xs.set a ((rd xs a + rd xs b) % 4294967296)
def qxor (k : Nat) (xs : List Int) (d a : Nat) : List Int := xs.set d (rotl k (bits .xor .u32 (rd xs d) (rd xs a)))
def quarter (xs : List Int) (a b c d : Nat) : List Int :=
  qxor 7 (qadd (qxor 8 (qadd (qxor 12 (qadd (qxor 16 (qadd xs a b) d a) c d) b c) a b) d a) c d) b c
@[simp] theorem qadd_length (xs : List Int) (a b : Nat) : (qadd xs a b).length = xs.length := by simp [qadd]
@[simp] theorem qxor_length (k : Nat) (xs : List Int) (a b : Nat) : (qxor k xs a b).length = xs.length := by simp [qxor]
@[simp] theorem quarter_length (xs : List Int) (a b c d : Nat) : (quarter xs a b c d).length = xs.length := by simp [quarter]
/-- All are words. -/
def words (xs : List Int) : Prop := ∀ i, 0 ≤ rd xs i ∧ rd xs i < 4294967296
theorem rd_set (xs : List Int) (i j : Nat) (x : Int) : rd (xs.set i x) j = if i = j ∧ j < xs.length then x else rd xs j := by
  unfold rd
  by_cases h : i = j
  · subst h
    by_cases hl : i < xs.length <;> simp [List.getElem?_set, hl]
  · simp [List.getElem?_set_ne h, h]
theorem words_set {xs : List Int} (h : words xs) (i : Nat) {x : Int} (h0 : 0 ≤ x) (h1 : x < 4294967296) : words (xs.set i x) := by
  intro j
  rw [rd_set]
  split
  · exact ⟨h0, h1⟩
  · exact h j
theorem bits_u32_bound (op : BinOp) (x y : Int) : 0 ≤ bits op .u32 x y ∧ bits op .u32 x y < 4294967296 :=
  ⟨(bits_within op .u32 x y).1, by have := (bits_within op .u32 x y).2; have e : IntKind.u32.max = 4294967295 := by decide
                                   omega⟩
theorem rotl_bound (k : Nat) (x : Int) : 0 ≤ rotl k x ∧ rotl k x < 4294967296 := bits_u32_bound _ _ _
theorem words_qadd {xs : List Int} (h : words xs) (a b : Nat) : words (qadd xs a b) := words_set h a (Int.emod_nonneg _ (by decide)) (Int.emod_lt_of_pos _ (by decide))
theorem words_qxor {xs : List Int} (h : words xs) (k a b : Nat) : words (qxor k xs a b) := words_set h a (rotl_bound _ _).1 (rotl_bound _ _).2
theorem words_quarter {xs : List Int} (h : words xs) (a b c d : Nat) : words (quarter xs a b c d) :=
  words_qxor (words_qadd (words_qxor (words_qadd (words_qxor (words_qadd (words_qxor (words_qadd h _ _) _ _ _) _ _) _ _ _) _ _) _ _ _) _ _) _ _ _

set_option maxHeartbeats 4000000 in
set_option maxRecDepth 100000 in
theorem quarter_calls (g a b c d : Nat) (xs : List Int) (w : World) (hx : xs.length = 16) (ha : a < 16) (hb : b < 16) (hc : c < 16) (hd : d < 16) (hg : Blk w g 153 (ints .u32 xs)) (hw : words xs) :
    Calls Tryd.prog 112 #[.pointer (some ⟨g, 0, none⟩), .int .i64 a, .int .i64 b, .int .i64 c, .int .i64 d] w fun e w' => e = .returned (.tuple #[]) ∧ Blk w' g 153 (ints .u32 (quarter xs a b c d)) ∧ Only g w w' := by
  have ia : (a : Int) < 16 := by omega
  have ib : (b : Int) < 16 := by omega
  have ic : (c : Int) < 16 := by omega
  have id : (d : Int) < 16 := by omega
  obtain ⟨x0, HX⟩ : ∃ x, Hd (x = xs) := ⟨xs, hid rfl⟩
  have HL : Hd (x0.length = 16) := hid (by rw [HX.out]; exact hx)
  have HW : Hd (words x0) := hid (by rw [HX.out]; exact hw)
  replace hg : Blk w g 153 (ints .u32 x0) := by rw [HX.out]; exact hg
  clear hx hw
  obtain ⟨w0, HE⟩ : ∃ v, Hd (v = w) := ⟨w, hid rfl⟩
  replace hg : Blk w0 g 153 (ints .u32 x0) := by rw [HE.out]; exact hg
  have HO : Only g w0 w0 := Only.refl g w0
  rw [← HE.out]
  clear HE
  go_enter Tryd.func112, Tryd.ntmps112
  go_wp2
  -- region 0
  have cx := hg.cellI a (by have := HL.out; omega)
  have cy := hg.cellI b (by have := HL.out; omega)
  have fx := hg.frozen a
  refine wp_region_still_tail 13 (by kernel_rfl) (by kernel_rfl) ?_
  simp only [List.take_succ_cons, List.take_zero, List.drop_succ_cons, List.drop_zero]
  change wpStill _ _ (World.drew _) (fun a' => wpList _ _ _ _ a' (World.drew _)) _ _
  repeat still_step
  refine wpStill_nil ?_
  change wpList _ _ _ _ _ _
  go_wp2_with fail
  replace hg : Blk _ g 153 (ints .u32 (qadd x0 a b)) := (hg.setI a ((rd x0 a + rd x0 b) % 4294967296)).drew
  replace HO := (HO.setCell a (.int .u32 ((rd x0 a + rd x0 b) % 4294967296))).drew
  replace HW : Hd (words (qadd x0 a b)) := hid (words_qadd HW.out _ _)
  replace HL : Hd ((qadd x0 a b).length = 16) := hid (by have := HL.out; simpa using this)
  replace HX : Hd (qadd x0 a b = qadd xs a b) := hid (by rw [HX.out])
  clear cx cy fx
  generalize (w0.setCell { block := g, off := a } (.int .u32 ((rd x0 a + rd x0 b) % 4294967296))).drew = w1 at hg HO ⊢
  generalize hx1 : qadd x0 a b = x1 at hg HW HL HX
  clear hx1
  -- region 1
  have cx := hg.cellI d (by have := HL.out; omega)
  have cy := hg.cellI a (by have := HL.out; omega)
  have fx := hg.frozen d
  refine wp_region_still_tail 16 (by kernel_rfl) (by kernel_rfl) ?_
  simp only [List.take_succ_cons, List.take_zero, List.drop_succ_cons, List.drop_zero]
  change wpStill _ _ (World.drew _) (fun a' => wpList _ _ _ _ a' (World.drew _)) _ _
  repeat still_step
  still_call (rotl16_calls _ _ (bits_u32_bound _ _ _).1 (bits_u32_bound _ _ _).2)
  repeat still_step
  refine wpStill_nil ?_
  change wpList _ _ _ _ _ _
  go_wp2_with fail
  replace hg : Blk _ g 153 (ints .u32 (qxor 16 x1 d a)) := (hg.setI d (rotl 16 (bits .xor .u32 (rd x1 d) (rd x1 a)))).drew
  replace HO := (HO.setCell d (.int .u32 (rotl 16 (bits .xor .u32 (rd x1 d) (rd x1 a))))).drew
  replace HW : Hd (words (qxor 16 x1 d a)) := hid (words_qxor HW.out _ _ _)
  replace HL : Hd ((qxor 16 x1 d a).length = 16) := hid (by have := HL.out; simpa using this)
  replace HX : Hd (qxor 16 x1 d a = qxor 16 (qadd xs a b) d a) := hid (by rw [HX.out])
  clear cx cy fx
  generalize (w1.setCell { block := g, off := d } (.int .u32 (rotl 16 (bits .xor .u32 (rd x1 d) (rd x1 a))))).drew = w2 at hg HO ⊢
  generalize hx1 : qxor 16 x1 d a = x2 at hg HW HL HX
  clear hx1
  -- region 2
  have cx := hg.cellI c (by have := HL.out; omega)
  have cy := hg.cellI d (by have := HL.out; omega)
  have fx := hg.frozen c
  refine wp_region_still_tail 13 (by kernel_rfl) (by kernel_rfl) ?_
  simp only [List.take_succ_cons, List.take_zero, List.drop_succ_cons, List.drop_zero]
  change wpStill _ _ (World.drew _) (fun a' => wpList _ _ _ _ a' (World.drew _)) _ _
  repeat still_step
  refine wpStill_nil ?_
  change wpList _ _ _ _ _ _
  go_wp2_with fail
  replace hg : Blk _ g 153 (ints .u32 (qadd x2 c d)) := (hg.setI c ((rd x2 c + rd x2 d) % 4294967296)).drew
  replace HO := (HO.setCell c (.int .u32 ((rd x2 c + rd x2 d) % 4294967296))).drew
  replace HW : Hd (words (qadd x2 c d)) := hid (words_qadd HW.out _ _)
  replace HL : Hd ((qadd x2 c d).length = 16) := hid (by have := HL.out; simpa using this)
  replace HX : Hd (qadd x2 c d = qadd (qxor 16 (qadd xs a b) d a) c d) := hid (by rw [HX.out])
  clear cx cy fx
  generalize (w2.setCell { block := g, off := c } (.int .u32 ((rd x2 c + rd x2 d) % 4294967296))).drew = w3 at hg HO ⊢
  generalize hx1 : qadd x2 c d = x3 at hg HW HL HX
  clear hx1
  -- region 3
  have cx := hg.cellI b (by have := HL.out; omega)
  have cy := hg.cellI c (by have := HL.out; omega)
  have fx := hg.frozen b
  refine wp_region_still_tail 16 (by kernel_rfl) (by kernel_rfl) ?_
  simp only [List.take_succ_cons, List.take_zero, List.drop_succ_cons, List.drop_zero]
  change wpStill _ _ (World.drew _) (fun a' => wpList _ _ _ _ a' (World.drew _)) _ _
  repeat still_step
  still_call (rotl12_calls _ _ (bits_u32_bound _ _ _).1 (bits_u32_bound _ _ _).2)
  repeat still_step
  refine wpStill_nil ?_
  change wpList _ _ _ _ _ _
  go_wp2_with fail
  replace hg : Blk _ g 153 (ints .u32 (qxor 12 x3 b c)) := (hg.setI b (rotl 12 (bits .xor .u32 (rd x3 b) (rd x3 c)))).drew
  replace HO := (HO.setCell b (.int .u32 (rotl 12 (bits .xor .u32 (rd x3 b) (rd x3 c))))).drew
  replace HW : Hd (words (qxor 12 x3 b c)) := hid (words_qxor HW.out _ _ _)
  replace HL : Hd ((qxor 12 x3 b c).length = 16) := hid (by have := HL.out; simpa using this)
  replace HX : Hd (qxor 12 x3 b c = qxor 12 (qadd (qxor 16 (qadd xs a b) d a) c d) b c) := hid (by rw [HX.out])
  clear cx cy fx
  generalize (w3.setCell { block := g, off := b } (.int .u32 (rotl 12 (bits .xor .u32 (rd x3 b) (rd x3 c))))).drew = w4 at hg HO ⊢
  generalize hx1 : qxor 12 x3 b c = x4 at hg HW HL HX
  clear hx1
  -- region 4
  have cx := hg.cellI a (by have := HL.out; omega)
  have cy := hg.cellI b (by have := HL.out; omega)
  have fx := hg.frozen a
  refine wp_region_still_tail 13 (by kernel_rfl) (by kernel_rfl) ?_
  simp only [List.take_succ_cons, List.take_zero, List.drop_succ_cons, List.drop_zero]
  change wpStill _ _ (World.drew _) (fun a' => wpList _ _ _ _ a' (World.drew _)) _ _
  repeat still_step
  refine wpStill_nil ?_
  change wpList _ _ _ _ _ _
  go_wp2_with fail
  replace hg : Blk _ g 153 (ints .u32 (qadd x4 a b)) := (hg.setI a ((rd x4 a + rd x4 b) % 4294967296)).drew
  replace HO := (HO.setCell a (.int .u32 ((rd x4 a + rd x4 b) % 4294967296))).drew
  replace HW : Hd (words (qadd x4 a b)) := hid (words_qadd HW.out _ _)
  replace HL : Hd ((qadd x4 a b).length = 16) := hid (by have := HL.out; simpa using this)
  replace HX : Hd (qadd x4 a b = qadd (qxor 12 (qadd (qxor 16 (qadd xs a b) d a) c d) b c) a b) := hid (by rw [HX.out])
  clear cx cy fx
  generalize (w4.setCell { block := g, off := a } (.int .u32 ((rd x4 a + rd x4 b) % 4294967296))).drew = w5 at hg HO ⊢
  generalize hx1 : qadd x4 a b = x5 at hg HW HL HX
  clear hx1
  -- region 5
  have cx := hg.cellI d (by have := HL.out; omega)
  have cy := hg.cellI a (by have := HL.out; omega)
  have fx := hg.frozen d
  refine wp_region_still_tail 16 (by kernel_rfl) (by kernel_rfl) ?_
  simp only [List.take_succ_cons, List.take_zero, List.drop_succ_cons, List.drop_zero]
  change wpStill _ _ (World.drew _) (fun a' => wpList _ _ _ _ a' (World.drew _)) _ _
  repeat still_step
  still_call (rotl8_calls _ _ (bits_u32_bound _ _ _).1 (bits_u32_bound _ _ _).2)
  repeat still_step
  refine wpStill_nil ?_
  change wpList _ _ _ _ _ _
  go_wp2_with fail
  replace hg : Blk _ g 153 (ints .u32 (qxor 8 x5 d a)) := (hg.setI d (rotl 8 (bits .xor .u32 (rd x5 d) (rd x5 a)))).drew
  replace HO := (HO.setCell d (.int .u32 (rotl 8 (bits .xor .u32 (rd x5 d) (rd x5 a))))).drew
  replace HW : Hd (words (qxor 8 x5 d a)) := hid (words_qxor HW.out _ _ _)
  replace HL : Hd ((qxor 8 x5 d a).length = 16) := hid (by have := HL.out; simpa using this)
  replace HX : Hd (qxor 8 x5 d a = qxor 8 (qadd (qxor 12 (qadd (qxor 16 (qadd xs a b) d a) c d) b c) a b) d a) := hid (by rw [HX.out])
  clear cx cy fx
  generalize (w5.setCell { block := g, off := d } (.int .u32 (rotl 8 (bits .xor .u32 (rd x5 d) (rd x5 a))))).drew = w6 at hg HO ⊢
  generalize hx1 : qxor 8 x5 d a = x6 at hg HW HL HX
  clear hx1
  -- region 6
  have cx := hg.cellI c (by have := HL.out; omega)
  have cy := hg.cellI d (by have := HL.out; omega)
  have fx := hg.frozen c
  refine wp_region_still_tail 13 (by kernel_rfl) (by kernel_rfl) ?_
  simp only [List.take_succ_cons, List.take_zero, List.drop_succ_cons, List.drop_zero]
  change wpStill _ _ (World.drew _) (fun a' => wpList _ _ _ _ a' (World.drew _)) _ _
  repeat still_step
  refine wpStill_nil ?_
  change wpList _ _ _ _ _ _
  go_wp2_with fail
  replace hg : Blk _ g 153 (ints .u32 (qadd x6 c d)) := (hg.setI c ((rd x6 c + rd x6 d) % 4294967296)).drew
  replace HO := (HO.setCell c (.int .u32 ((rd x6 c + rd x6 d) % 4294967296))).drew
  replace HW : Hd (words (qadd x6 c d)) := hid (words_qadd HW.out _ _)
  replace HL : Hd ((qadd x6 c d).length = 16) := hid (by have := HL.out; simpa using this)
  replace HX : Hd (qadd x6 c d = qadd (qxor 8 (qadd (qxor 12 (qadd (qxor 16 (qadd xs a b) d a) c d) b c) a b) d a) c d) := hid (by rw [HX.out])
  clear cx cy fx
  generalize (w6.setCell { block := g, off := c } (.int .u32 ((rd x6 c + rd x6 d) % 4294967296))).drew = w7 at hg HO ⊢
  generalize hx1 : qadd x6 c d = x7 at hg HW HL HX
  clear hx1
  -- region 7
  have cx := hg.cellI b (by have := HL.out; omega)
  have cy := hg.cellI c (by have := HL.out; omega)
  have fx := hg.frozen b
  refine wp_region_still_tail 16 (by kernel_rfl) (by kernel_rfl) ?_
  simp only [List.take_succ_cons, List.take_zero, List.drop_succ_cons, List.drop_zero]
  change wpStill _ _ (World.drew _) (fun a' => wpList _ _ _ _ a' (World.drew _)) _ _
  repeat still_step
  still_call (rotl7_calls _ _ (bits_u32_bound _ _ _).1 (bits_u32_bound _ _ _).2)
  repeat still_step
  refine wpStill_nil ?_
  change wpList _ _ _ _ _ _
  go_wp2_with fail
  replace hg : Blk _ g 153 (ints .u32 (qxor 7 x7 b c)) := (hg.setI b (rotl 7 (bits .xor .u32 (rd x7 b) (rd x7 c)))).drew
  replace HO := (HO.setCell b (.int .u32 (rotl 7 (bits .xor .u32 (rd x7 b) (rd x7 c))))).drew
  replace HW : Hd (words (qxor 7 x7 b c)) := hid (words_qxor HW.out _ _ _)
  replace HL : Hd ((qxor 7 x7 b c).length = 16) := hid (by have := HL.out; simpa using this)
  replace HX : Hd (qxor 7 x7 b c = qxor 7 (qadd (qxor 8 (qadd (qxor 12 (qadd (qxor 16 (qadd xs a b) d a) c d) b c) a b) d a) c d) b c) := hid (by rw [HX.out])
  clear cx cy fx
  generalize (w7.setCell { block := g, off := b } (.int .u32 (rotl 7 (bits .xor .u32 (rd x7 b) (rd x7 c))))).drew = w8 at hg HO ⊢
  generalize hx1 : qxor 7 x7 b c = x8 at hg HW HL HX
  clear hx1
  go_end0
  exact ⟨rfl, by rw [show quarter xs a b c d = x8 from HX.out.symm]; exact hg, HO⟩
end Go.Proofs.YtlikinglgegclaaDoor
/- A word of four bytes. -/
namespace Go.Proofs.YtlikinglgegclaaDoor
open Go.RowKit Go.Cour
/-- Four bytes as a word. -/
def word4 (b0 b1 b2 b3 : Int) : Int := bits .or .u32 (bits .or .u32 (bits .or .u32 b0 (b1 * 256)) (b2 * 65536)) (b3 * 16777216)
set_option maxHeartbeats 1000000 in
set_option maxRecDepth 100000 in
theorem word_calls (g o i n c : Nat) (p : Int) (b0 b1 b2 b3 : Int) (w : World) (hp : p = (i : Int)) (hi : i + 3 < n) (hn : n < 1000000)
    (h0 : w.cell? ⟨g, o + i, none⟩ = some (.int .u8 b0)) (h1 : w.cell? ⟨g, o + (i + 1), none⟩ = some (.int .u8 b1)) (h2 : w.cell? ⟨g, o + (i + 2), none⟩ = some (.int .u8 b2)) (h3 : w.cell? ⟨g, o + (i + 3), none⟩ = some (.int .u8 b3))
    (r0 : 0 ≤ b0 ∧ b0 < 256) (r1 : 0 ≤ b1 ∧ b1 < 256) (r2 : 0 ≤ b2 ∧ b2 < 256) (r3 : 0 ≤ b3 ∧ b3 < 256) :
    Calls Tryd.prog 111 #[.slice (some ⟨g, o, none⟩) n c, .int .i64 p] w fun e w' => e = .returned (.int .u32 (word4 b0 b1 b2 b3)) ∧ ∃ m, w' = w.drewN m := by
  subst hp
  have i0 : (i : Int) < n := by omega
  have i1 : (i : Int) + 1 < n := by omega
  have i2 : (i : Int) + 2 < n := by omega
  have i3 : (i : Int) + 3 < n := by omega
  have i4 : (i : Int) < 1000000 := by omega
  clear hi hn
  go_enter Tryd.func111, Tryd.ntmps111
  go_wp2
  go_quiet (fail)
  go_wp2
  go_ret
  exact ⟨rfl, _, rfl⟩

def wordAt (xs : List Int) (i : Nat) : Int := word4 (rd xs i) (rd xs (i + 1)) (rd xs (i + 2)) (rd xs (i + 3))
theorem wordB_calls (g i n c : Nat) (t : TypeId) (p : Int) (xs : List Int) (w : World) (hp : p = (i : Int)) (hg : Blk w g t (ints .u8 xs)) (hi : i + 3 < n) (hn : n = xs.length) (hx : n < 1000000) (r : bytesOk xs) :
    Calls Tryd.prog 111 #[.slice (some ⟨g, 0, none⟩) n c, .int .i64 p] w fun e w' => e = .returned (.int .u32 (wordAt xs i)) ∧ ∃ m, w' = w.drewN m := by
  subst hn
  exact word_calls g 0 i _ c p _ _ _ _ w hp hi hx (by rw [Nat.zero_add]; exact hg.cellI i (by omega)) (by rw [Nat.zero_add]; exact hg.cellI _ (by omega)) (by rw [Nat.zero_add]; exact hg.cellI _ (by omega)) (by rw [Nat.zero_add]; exact hg.cellI _ (by omega)) (r _) (r _) (r _) (r _)
/-- The first state: constants, the key's words, the counter, the nonce's. -/
def first0 (c : Int) : List Int := [1634760805, 857760878, 2036477234, 1797285236, 0, 0, 0, 0, 0, 0, 0, 0, c, 0, 0, 0]
def firstK (key : List Int) (c : Int) (n : Nat) : List Int := (List.range n).foldl (fun s i => s.set (4 + i) (wordAt key (4 * i))) (first0 c)
def firstN (key : List Int) (c : Int) (nonce : List Int) (n : Nat) : List Int := (List.range n).foldl (fun s i => s.set (13 + i) (wordAt nonce (4 * i))) (firstK key c 8)
def cols (s : List Int) (n : Nat) : List Int := (List.range n).foldl (fun s i => quarter s i (4 + i) (8 + i) (12 + i)) s
def diags (s : List Int) (n : Nat) : List Int := (List.range n).foldl (fun s i => quarter s i (4 + (i + 1) % 4) (8 + (i + 2) % 4) (12 + (i + 3) % 4)) s
def rounds (s : List Int) (n : Nat) : List Int := (List.range n).foldl (fun s _ => diags (cols s 4) 4) s
def outByte (s f : List Int) (i : Nat) : Int := ((rd s (i / 4) + rd f (i / 4)) % 4294967296 / 2 ^ (8 * (i % 4))) % 256
def outTo (s f : List Int) (n : Nat) : List Int := (List.range n).foldl (fun o i => o.set i (outByte s f i)) (List.replicate 64 0)
def block (key : List Int) (c : Int) (nonce : List Int) : List Int := outTo (rounds (firstN key c nonce 3) 10) (firstN key c nonce 3) 64
theorem info65 : (Tryd.prog.info? 153).map (·.size) = some 16 := by kernel_rfl
theorem arr65 : Tryd.prog.underlying 153 = some (.array 16 29) := by kernel_rfl
theorem info44 : (Tryd.prog.info? 142).map (·.size) = some 64 := by kernel_rfl
theorem arr44 : Tryd.prog.underlying 142 = some (.array 64 5) := by kernel_rfl

theorem foldl_succ {α : Type} (f : α → Nat → α) (s : α) (n : Nat) : (List.range (n + 1)).foldl f s = f ((List.range n).foldl f s) n := by
  rw [List.range_succ, List.foldl_append]; rfl
theorem firstK_succ (key : List Int) (c : Int) (n : Nat) : firstK key c (n + 1) = (firstK key c n).set (4 + n) (wordAt key (4 * n)) := foldl_succ _ _ _
theorem firstN_succ (key : List Int) (c : Int) (nonce : List Int) (n : Nat) : firstN key c nonce (n + 1) = (firstN key c nonce n).set (13 + n) (wordAt nonce (4 * n)) := foldl_succ _ _ _
theorem firstK_length (key : List Int) (c : Int) : ∀ n, (firstK key c n).length = 16
  | 0 => rfl
  | n + 1 => by rw [firstK_succ, List.length_set]; exact firstK_length key c n
theorem firstN_length (key : List Int) (c : Int) (nonce : List Int) : ∀ n, (firstN key c nonce n).length = 16
  | 0 => firstK_length key c 8
  | n + 1 => by rw [firstN_succ, List.length_set]; exact firstN_length key c nonce n

/-- What the blocks of a call of Block hold before its rounds. -/
structure BS (w wr : World) (key nonce first : List Int) : Prop where
  k : Blk wr w.heap.size 27 (ints .u8 key)
  n : Blk wr (w.heap.size + 1) 91 (ints .u8 nonce)
  r : Blk wr (w.heap.size + 1 + 1) 142 (ints .u8 (List.replicate 64 0))
  f : Blk wr (w.heap.size + 1 + 1 + 1) 153 (ints .u32 first)
  below : Below w.heap.size w wr
  size : wr.heap.size = w.heap.size + 1 + 1 + 1 + 1

theorem quarterI_calls (g a b c d : Nat) (pa pb pc pd : Int) (xs : List Int) (w : World) (ea : pa = a) (eb : pb = b) (ec : pc = c) (ed : pd = d) (hx : xs.length = 16) (ha : a < 16) (hb : b < 16) (hc : c < 16) (hd : d < 16) (hg : Blk w g 153 (ints .u32 xs)) (hw : words xs) :
    Calls Tryd.prog 112 #[.pointer (some ⟨g, 0, none⟩), .int .i64 pa, .int .i64 pb, .int .i64 pc, .int .i64 pd] w fun e w' => e = .returned (.tuple #[]) ∧ Blk w' g 153 (ints .u32 (quarter xs a b c d)) ∧ Only g w w' := by
  subst ea eb ec ed
  exact quarter_calls g a b c d xs w hx ha hb hc hd hg hw
theorem cols_succ (s : List Int) (n : Nat) : cols s (n + 1) = quarter (cols s n) n (4 + n) (8 + n) (12 + n) := foldl_succ _ _ _
theorem diags_succ (s : List Int) (n : Nat) : diags s (n + 1) = quarter (diags s n) n (4 + (n + 1) % 4) (8 + (n + 2) % 4) (12 + (n + 3) % 4) := foldl_succ _ _ _
theorem rounds_succ (s : List Int) (n : Nat) : rounds s (n + 1) = diags (cols (rounds s n) 4) 4 := foldl_succ _ _ _
theorem outTo_succ (s f : List Int) (n : Nat) : outTo s f (n + 1) = (outTo s f n).set n (outByte s f n) := foldl_succ _ _ _
theorem cols_zero (s : List Int) : cols s 0 = s := rfl
theorem diags_zero (s : List Int) : diags s 0 = s := rfl
theorem rounds_zero (s : List Int) : rounds s 0 = s := rfl
theorem outTo_zero (s f : List Int) : outTo s f 0 = List.replicate 64 0 := rfl
theorem cols_length (s : List Int) : ∀ n, (cols s n).length = s.length
  | 0 => rfl
  | n + 1 => by rw [cols_succ, quarter_length]; exact cols_length s n
theorem diags_length (s : List Int) : ∀ n, (diags s n).length = s.length
  | 0 => rfl
  | n + 1 => by rw [diags_succ, quarter_length]; exact diags_length s n
theorem rounds_length (s : List Int) : ∀ n, (rounds s n).length = s.length
  | 0 => rfl
  | n + 1 => by rw [rounds_succ, diags_length, cols_length]; exact rounds_length s n
theorem outTo_length (s f : List Int) : ∀ n, (outTo s f n).length = 64
  | 0 => by simp [outTo]
  | n + 1 => by rw [outTo_succ, List.length_set]; exact outTo_length s f n
theorem words_cols {s : List Int} (h : words s) : ∀ n, words (cols s n)
  | 0 => h
  | n + 1 => by rw [cols_succ]; exact words_quarter (words_cols h n) _ _ _ _
theorem words_diags {s : List Int} (h : words s) : ∀ n, words (diags s n)
  | 0 => h
  | n + 1 => by rw [diags_succ]; exact words_quarter (words_diags h n) _ _ _ _
theorem words_rounds {s : List Int} (h : words s) : ∀ n, words (rounds s n)
  | 0 => h
  | n + 1 => by rw [rounds_succ]; exact words_diags (words_cols (words_rounds h n) 4) 4
theorem word4_bound (a b c d : Int) : 0 ≤ word4 a b c d ∧ word4 a b c d < 4294967296 := bits_u32_bound _ _ _
theorem words_first0 {c : Int} (hc : 0 ≤ c ∧ c < 4294967296) : words (first0 c) := by
  intro i
  by_cases h : i < 16
  · have : i = 0 ∨ i = 1 ∨ i = 2 ∨ i = 3 ∨ i = 4 ∨ i = 5 ∨ i = 6 ∨ i = 7 ∨ i = 8 ∨ i = 9 ∨ i = 10 ∨ i = 11 ∨ i = 12 ∨ i = 13 ∨ i = 14 ∨ i = 15 := by omega
    rcases this with rfl | rfl | rfl | rfl | rfl | rfl | rfl | rfl | rfl | rfl | rfl | rfl | rfl | rfl | rfl | rfl <;> simp [first0, rd] <;> omega
  · have : rd (first0 c) i = 0 := by unfold rd; rw [List.getD_eq_getElem?_getD, List.getElem?_eq_none (by simp [first0]; omega)]; rfl
    omega
theorem words_firstK (key : List Int) {c : Int} (hc : 0 ≤ c ∧ c < 4294967296) : ∀ n, words (firstK key c n)
  | 0 => words_first0 hc
  | n + 1 => by rw [firstK_succ]; exact words_set (words_firstK key hc n) _ (word4_bound _ _ _ _).1 (word4_bound _ _ _ _).2
theorem words_firstN (key : List Int) {c : Int} (hc : 0 ≤ c ∧ c < 4294967296) (nonce : List Int) : ∀ n, words (firstN key c nonce n)
  | 0 => words_firstK key hc 8
  | n + 1 => by rw [firstN_succ]; exact words_set (words_firstN key hc nonce n) _ (word4_bound _ _ _ _).1 (word4_bound _ _ _ _).2
/-- What they hold in its rounds. -/
structure BR (w wr : World) (G : Nat) (first s : List Int) : Prop where
  r : Blk wr (w.heap.size + 1 + 1) 142 (ints .u8 (List.replicate 64 0))
  f : Blk wr (w.heap.size + 1 + 1 + 1) 153 (ints .u32 first)
  s : Blk wr G 153 (ints .u32 s)
  below : Below w.heap.size w wr
  lt : w.heap.size + 1 + 1 + 1 < G
  size : wr.heap.size = G + 1
theorem BR.start {w wr : World} {key nonce F : List Int} (hS : BS w wr key nonce F) :
    BR w ((wr.alloc (.cells (ints .u32 (List.replicate 16 0)).toArray 153)).setRow wr.heap.size (ints .u32 F).toArray) wr.heap.size F F := by
  have hz := hS.size
  exact ⟨(hS.r.alloc _).setRowOther (by omega) _, (hS.f.alloc _).setRowOther (by omega) _, (Blk.new wr 153 _).setRow _, below_setRow (hS.below.alloc (by omega) _) (by omega) _, by omega, by simp⟩
theorem BR.quarter {w wr wx : World} {G : Nat} {first s s' : List Int} (h : BR w wr G first s) (hs : Blk wx G 153 (ints .u32 s')) (ho : Only G wr wx) : BR w wx G first s' :=
  ⟨h.r.only ho (by have := h.lt; omega), h.f.only ho (by have := h.lt; omega), hs, ho.below h.below (by have := h.lt; omega), h.lt, by rw [ho.size]; exact h.size⟩
/-- What they hold when the bytes are laid. -/
structure BO (w wr : World) (G H : Nat) (first s out : List Int) : Prop where
  r : Blk wr (w.heap.size + 1 + 1) 142 (ints .u8 (List.replicate 64 0))
  f : Blk wr (w.heap.size + 1 + 1 + 1) 153 (ints .u32 first)
  s : Blk wr G 153 (ints .u32 s)
  o : Blk wr H 142 (ints .u8 out)
  below : Below w.heap.size w wr
  lt : w.heap.size + 1 + 1 + 1 < G
  lt' : G < H
theorem BO.start {w wr : World} {G : Nat} {first s : List Int} (h : BR w wr G first s) : BO w (wr.alloc (.cells (ints .u8 (List.replicate 64 0)).toArray 142)) G wr.heap.size first s (outTo s first 0) :=
  ⟨h.r.alloc _, h.f.alloc _, h.s.alloc _, Blk.new wr 142 _, h.below.alloc (by have := h.size; have := h.lt; omega) _, h.lt, by have := h.size; omega⟩
theorem BO.next {w wr : World} {G H n : Nat} {first s : List Int} (h : BO w wr G H first s (outTo s first n)) : BO w (wr.setCell ⟨H, n, none⟩ (.int .u8 (outByte s first n))).drew G H first s (outTo s first (n + 1)) := by
  have h1 := h.lt
  have h2 := h.lt'
  refine ⟨(h.r.setOther (by simp; omega) _).drew, (h.f.setOther (by simp; omega) _).drew, (h.s.setOther (by simp; omega) _).drew, ?_, (h.below.setCell (by simp; omega) _).drew, h1, h2⟩
  rw [outTo_succ]; exact (h.o.setI n _).drew
theorem outByte_eq (s f : List Int) (n q r : Nat) (h : n = 4 * q + r) (hr : r < 4) : outByte s f n = ((rd s q + rd f q) % 4294967296 / 2 ^ (8 * r)) % 256 := by
  have e1 : n / 4 = q := by omega
  have e2 : n % 4 = r := by omega
  rw [outByte, e1, e2]
set_option maxHeartbeats 4000000 in
set_option maxRecDepth 100000 in
theorem block_calls (key nonce : List Int) (c : Int) (w : World) (hk : key.length = 32) (hn : nonce.length = 12) (rk : bytesOk key) (rn : bytesOk nonce) (hc : 0 ≤ c ∧ c < 4294967296) :
    Calls Tryd.prog 106 #[.agg (ints .u8 key).toArray, .int .u32 c, .agg (ints .u8 nonce).toArray] w fun e w' => e = .returned (.agg (ints .u8 (block key c nonce)).toArray) ∧ Below w.heap.size w w' := by
  have HK := hid hk
  have HN := hid hn
  have HC := hid hc
  clear hk hn hc
  go_enter Tryd.func106, Tryd.ntmps106
  go_wp2_with fail
  go_loopg [17] 8 (fun kq v17 wr => ∃ i : Nat, i ≤ 8 ∧ v17 = .int .i64 i ∧ Hd (kq = 8 - i) ∧ BS w wr key nonce (firstK key c i))
  case atStart =>
    refine ⟨0, by omega, rfl, hid rfl, ?_, ?_, ?_, ?_, ?_, ?_⟩
    · exact ((((Blk.new w 27 (ints .u8 key)).alloc _).alloc _).alloc _)
    · exact ((Blk.new' (w.alloc _) 91 (ints .u8 nonce) _ (by simp)).alloc _).alloc _
    · exact (Blk.new' ((w.alloc _).alloc _) 142 (ints .u8 (List.replicate 64 0)) _ (by simp)).alloc _
    · exact Blk.new' (((w.alloc _).alloc _).alloc _) 153 (ints .u32 (first0 c)) _ (by simp)
    · exact ((((Below.refl _ _).alloc (Nat.le_refl _) _).alloc (by simp) _).alloc (by simp; try omega) _).alloc (by simp; try omega) _
    · simp
  case round =>
    obtain ⟨i, hi, rfl, hq, hS⟩ := hrel
    by_cases hlt : i < 8
    · have hfc := hS.f.cellI (4 + i) (by rw [firstK_length]; omega)
      have hff := hS.f.frozen (4 + i)
      go_wp2_with (go_at_call 111; refine (wordB_calls w.heap.size (4 * i) _ _ 27 _ key _ (by omega) hS.k (by omega) HK.out.symm (by omega) rk).mono ?_; rintro e w' ⟨rfl, m, rfl⟩)
      go_roundg (gk - 1)
      case measure => have := hq.out; omega
      case rel =>
        refine ⟨i + 1, by omega, by go_num, hid (by have := hq.out; omega), ?_, ?_, ?_, ?_, ?_, ?_⟩
        · exact ((hS.k.drewN m).setOther (by simp; try omega) _)
        · exact ((hS.n.drewN m).setOther (by simp; try omega) _)
        · exact ((hS.r.drewN m).setOther (by simp; try omega) _)
        · rw [firstK_succ]; exact (hS.f.drewN m).setI (4 + i) _
        · exact (below_drewN hS.below m).setCell (by simp; try omega) _
        · simpa [World.setCell] using hS.size
    · obtain rfl : i = 8 := by omega
      clear hq hi hlt
      go_wp2_with fail
      obtain ⟨wo, rfl⟩ : ∃ wo : World, wo = wr := ⟨_, rfl⟩
      go_loopg [28] 3 (fun kq v28 wr => ∃ i : Nat, i ≤ 3 ∧ v28 = .int .i64 i ∧ Hd (kq = 3 - i) ∧ BS w wr key nonce (firstN key c nonce i))
      case atStart => exact ⟨0, by omega, rfl, hid rfl, hS⟩
      case round =>
        clear hS
        obtain ⟨i, hi, rfl, hq, hS⟩ := hrel
        by_cases hlt : i < 3
        · have hfc := hS.f.cellI (13 + i) (by rw [firstN_length]; omega)
          have hff := hS.f.frozen (13 + i)
          go_wp2_with (go_at_call 111; refine (wordB_calls (w.heap.size + 1) (4 * i) _ _ 91 _ nonce _ (by omega) hS.n (by omega) HN.out.symm (by omega) rn).mono ?_; rintro e w' ⟨rfl, m, rfl⟩)
          go_roundg (gk - 1)
          case measure => have := hq.out; omega
          case rel =>
            refine ⟨i + 1, by omega, by go_num, hid (by have := hq.out; omega), ?_, ?_, ?_, ?_, ?_, ?_⟩
            · exact ((hS.k.drewN m).setOther (by simp; try omega) _)
            · exact ((hS.n.drewN m).setOther (by simp; try omega) _)
            · exact ((hS.r.drewN m).setOther (by simp; try omega) _)
            · rw [firstN_succ]; exact (hS.f.drewN m).setI (13 + i) _
            · exact (below_drewN hS.below m).setCell (by simp; try omega) _
            · simpa [World.setCell] using hS.size
        · obtain rfl : i = 3 := by omega
          clear hq hi hlt
          have hl16 : (ints .u32 (firstN key c nonce 3)).length = 16 := by simpa using firstN_length key c nonce 3
          go_wp2_with (first
            | (refine load_blk rfl 153 _ rfl (w.heap.size + 1 + 1 + 1) rfl 153 _ hS.f 16 29 arr65 hl16 info65 ?_)
            | (refine store_blk rfl 153 _ _ rfl wr.heap.size _ rfl rfl 153 _ (Blk.new wr 153 (ints .u32 (List.replicate 16 0))) 16 info65 hl16 (by simp) (ints_one _ _) ?_))
          have hR := BR.start hS
          have hl3 : (firstN key c nonce 3).length = 16 := firstN_length key c nonce 3
          have hw3 : words (firstN key c nonce 3) := words_firstN key HC.out nonce 3
          have hbl : block key c nonce = outTo (rounds (firstN key c nonce 3) 10) (firstN key c nonce 3) 64 := rfl
          have HBL := hid hbl
          clear hS hl16 hbl
          generalize firstN key c nonce 3 = F at *
          have HL3 := hid hl3
          clear hl3
          clear HK HN HC
          obtain ⟨G, hG⟩ : ∃ G, G = wr.heap.size := ⟨_, rfl⟩
          obtain ⟨wo, rfl⟩ : ∃ wo : World, wo = wr := ⟨_, rfl⟩
          rw [← hG] at hR ⊢
          clear hG
          go_loopg [40] 10 (fun kq v40 wr => ∃ i : Nat, i ≤ 10 ∧ v40 = .int .i64 i ∧ Hd (kq = 10 - i) ∧ BR w wr G F (rounds F i))
          case atStart => exact ⟨0, by omega, rfl, hid rfl, by rw [rounds_zero]; exact hR⟩
          case round =>
            clear hR
            obtain ⟨i, hi, rfl, hq, hR⟩ := hrel
            by_cases hlt : i < 10
            · have hd1 : decide ((i : Int) < 10) = true := by simp; omega
              go_wp2_with fail
              obtain ⟨wo1, rfl⟩ : ∃ wo : World, wo = wr := ⟨_, rfl⟩
              obtain ⟨gk1, hgk⟩ : ∃ g : Nat, Hd (g = gk) := ⟨gk, hid rfl⟩
              have hq1 : Hd (gk1 = 10 - i) := hid (by rw [hgk.out]; exact hq.out)
              go_loopg [42] 4 (fun kq v42 wr => ∃ j : Nat, j ≤ 4 ∧ v42 = .int .i64 j ∧ Hd (kq = 4 - j) ∧ BR w wr G F (cols (rounds F i) j))
              case atStart => exact ⟨0, by omega, rfl, hid rfl, by rw [cols_zero]; exact hR⟩
              case round =>
                clear hR
                obtain ⟨j, hj, rfl, hq2, hR⟩ := hrel
                by_cases hjlt : j < 4
                · go_wp2_with (go_at_call 112; refine (quarterI_calls G j (4 + j) (8 + j) (12 + j) _ _ _ _ (cols (rounds F i) j) _ rfl (by omega) (by omega) (by omega) (by rw [cols_length, rounds_length]; exact HL3.out) (by omega) (by omega) (by omega) (by omega) hR.s (words_cols (words_rounds hw3 i) j)).mono ?_; rintro e wx ⟨rfl, hs, ho⟩)
                  go_roundg (gk - 1)
                  case measure => have := hq2.out; omega
                  case rel => exact ⟨j + 1, by omega, by go_num, hid (by have := hq2.out; omega), hR.quarter (by rw [cols_succ]; exact hs) ho⟩
                · have hj4 : (j : Int) = 4 := by omega
                  rw [hj4]
                  obtain rfl : j = 4 := by omega
                  clear hq2 hj hjlt hj4
                  go_wp2_with fail
                  obtain ⟨wo2, rfl⟩ : ∃ wo : World, wo = wr := ⟨_, rfl⟩
                  go_loopg [54] 4 (fun kq v54 wr => ∃ j : Nat, j ≤ 4 ∧ v54 = .int .i64 j ∧ Hd (kq = 4 - j) ∧ BR w wr G F (diags (cols (rounds F i) 4) j))
                  case atStart => exact ⟨0, by omega, rfl, hid rfl, by rw [diags_zero]; exact hR⟩
                  case round =>
                    clear hR
                    obtain ⟨j, hj, rfl, hq2, hR⟩ := hrel
                    by_cases hjlt : j < 4
                    · go_wp2_with (go_at_call 112; refine (quarterI_calls G j (4 + (j + 1) % 4) (8 + (j + 2) % 4) (12 + (j + 3) % 4) _ _ _ _ (diags (cols (rounds F i) 4) j) _ rfl (by omega) (by omega) (by omega) (by rw [diags_length, cols_length, rounds_length]; exact HL3.out) (by omega) (by omega) (by omega) (by omega) hR.s (words_diags (words_cols (words_rounds hw3 i) 4) j)).mono ?_; rintro e wx ⟨rfl, hs, ho⟩)
                      go_roundg (gk - 1)
                      case measure => have := hq2.out; omega
                      case rel => exact ⟨j + 1, by omega, by go_num, hid (by have := hq2.out; omega), hR.quarter (by rw [diags_succ]; exact hs) ho⟩
                    · have hj4 : (j : Int) = 4 := by omega
                      rw [hj4]
                      obtain rfl : j = 4 := by omega
                      clear hq2 hj hjlt hj4
                      go_wp2_with fail
                      go_roundg (gk1 - 1)
                      case measure => have := hq1.out; have := hgk.out; omega
                      case rel => exact ⟨i + 1, by omega, by go_num, hid (by have := hq1.out; have := hgk.out; omega), by rw [rounds_succ]; exact hR⟩
            · obtain rfl : i = 10 := by omega
              clear hq hi hlt
              go_wp2_with fail
              have hO := BO.start hR
              clear hR
              obtain ⟨H, hH⟩ : ∃ H, H = wr.heap.size := ⟨_, rfl⟩
              obtain ⟨wo1, rfl⟩ : ∃ wo : World, wo = wr := ⟨_, rfl⟩
              rw [← hH] at hO ⊢
              clear hH
              have hlS : (rounds F 10).length = 16 := by rw [rounds_length]; exact HL3.out
              have HLS := hid hlS
              clear hlS hw3
              generalize rounds F 10 = S at hO HBL HLS
              go_loopg [73] 64 (fun kq v73 wr => ∃ i : Nat, i ≤ 64 ∧ v73 = .int .i64 i ∧ Hd (kq = 64 - i) ∧ BO w wr G H F S (outTo S F i))
              case atStart => exact ⟨0, by omega, rfl, hid rfl, hO⟩
              case round =>
                clear hO
                obtain ⟨i, hi, rfl, hq, hO⟩ := hrel
                by_cases hlt : i < 64
                · obtain ⟨q, r, hqr, hr, hq16⟩ : ∃ q r : Nat, Hd (i = 4 * q + r) ∧ r < 4 ∧ q < 16 := ⟨i / 4, i % 4, hid (by omega), by omega, by omega⟩
                  have cs := hO.s.cellI q (by have := HLS.out; omega)
                  have cf := hO.f.cellI q (by have := HL3.out; omega)
                  have co := hO.o.cellI i (by rw [outTo_length]; omega)
                  have fo := hO.o.frozen i
                  go_wp2_with fail
                  have a1 : IntKind.i64.wrap ((i : Int) / 4) = (q : Int) := by
                    have := hqr.out
                    rw [IntWalk.i64_in _ (by omega)]
                    omega
                  have a2 : (i : Int).tmod 4 = (r : Int) := by
                    have := hqr.out
                    rw [Int.tmod_eq_emod_of_nonneg (by omega)]
                    omega
                  have a3 : IntKind.i64.wrap (8 * (r : Int)) = 8 * (r : Int) := IntWalk.i64_in _ (by omega)
                  have a4 : 0 ≤ 8 * (r : Int) := by omega
                  have a5 : 8 * (r : Int) ≤ 32 := by omega
                  have a6 : (q : Int) < 16 := by omega
                  have a7 : (i : Int) < 64 := by omega
                  refine wp_region_still_tail 16 (by kernel_rfl) (by kernel_rfl) ?_
                  simp only [List.take_succ_cons, List.take_zero, List.drop_succ_cons, List.drop_zero]
                  change wpStill _ _ (World.drew _) (fun a' => wpList _ _ _ _ a' (World.drew _)) _ _
                  repeat still_step
                  refine wpStill_nil ?_
                  change wpList _ _ _ _ _ _
                  clear a1 a2 a3 a4 a5 a6
                  go_wp2_with fail
                  go_roundg (gk - 1)
                  case measure => have := hq.out; omega
                  case rel =>
                    refine ⟨i + 1, by omega, by go_num, hid (by have := hq.out; omega), ?_⟩
                    have hb := outByte_eq S F i q r hqr.out hr
                    have hn := hO.next
                    rw [hb] at hn
                    exact hn
                · obtain rfl : i = 64 := by omega
                  clear hq hi hlt
                  have hl64 : (ints .u8 (outTo S F 64)).length = 64 := by simpa using outTo_length S F 64
                  go_wp2_with (first
                    | (refine load_blk rfl 142 _ rfl H rfl 142 _ hO.o 64 5 arr44 hl64 info44 ?_)
                    | (refine store_blk rfl 142 _ _ rfl (w.heap.size + 1 + 1) _ rfl rfl 142 _ hO.r 64 info44 hl64 (by simp) (ints_one _ _) ?_))
                  refine bodyPost_ret (results_blk rfl _ _ (w.heap.size + 1 + 1) 142 _ 64 5 rfl (hO.r.setRow _) arr44 hl64 info44) rfl ?_
                  exact ⟨by rw [HBL.out], below_setRow hO.below (by omega) _⟩
end Go.Proofs.YtlikinglgegclaaDoor
/- XOR: bytes with the stream's. -/
namespace Go.Proofs.YtlikinglgegclaaDoor
open Go.RowKit Go.Cour
attribute [local go_sem] max2_int min2_int
/-- The counter behind so many blocks. -/
def ctr (c : Int) (j : Nat) : Int := (c + j) % 4294967296
def xorByte (key : List Int) (c : Int) (nonce xs : List Int) (i : Nat) : Int := bits .xor .u8 (rd xs i) (rd (block key (ctr c (i / 64)) nonce) (i % 64))
def xorTo (key : List Int) (c : Int) (nonce xs : List Int) (n : Nat) : List Int := (List.range n).foldl (fun o i => o.set i (xorByte key c nonce xs i)) (List.replicate xs.length 0)
def xorStream (key : List Int) (c : Int) (nonce xs : List Int) : List Int := xorTo key c nonce xs xs.length
theorem xorTo_succ (key : List Int) (c : Int) (nonce xs : List Int) (n : Nat) : xorTo key c nonce xs (n + 1) = (xorTo key c nonce xs n).set n (xorByte key c nonce xs n) := foldl_succ _ _ _
theorem xorTo_length (key : List Int) (c : Int) (nonce xs : List Int) : ∀ n, (xorTo key c nonce xs n).length = xs.length
  | 0 => by simp [xorTo]
  | n + 1 => by rw [xorTo_succ, List.length_set]; exact xorTo_length key c nonce xs n
theorem xorStream_length (key : List Int) (c : Int) (nonce xs : List Int) : (xorStream key c nonce xs).length = xs.length := xorTo_length _ _ _ _ _
theorem ctr_bound (c : Int) (j : Nat) : 0 ≤ ctr c j ∧ ctr c j < 4294967296 := ⟨Int.emod_nonneg _ (by decide), Int.emod_lt_of_pos _ (by decide)⟩
theorem ctr_succ (c : Int) (j : Nat) : (ctr c j + 1) % 4294967296 = ctr c (j + 1) := by unfold ctr; omega
theorem ctr_zero {c : Int} (h : 0 ≤ c ∧ c < 4294967296) : ctr c 0 = c := by unfold ctr; omega
theorem block_length (key : List Int) (c : Int) (nonce : List Int) : (block key c nonce).length = 64 := outTo_length _ _ _
theorem info23 : (Tryd.prog.info? 27).map (·.size) = some 32 := by kernel_rfl
theorem arr23 : Tryd.prog.underlying 27 = some (.array 32 5) := by kernel_rfl
theorem info24 : (Tryd.prog.info? 91).map (·.size) = some 12 := by kernel_rfl
theorem arr24 : Tryd.prog.underlying 91 = some (.array 12 5) := by kernel_rfl
/-- What the blocks of a call of XOR hold. -/
structure XS (w wr : World) (key nonce out : List Int) : Prop where
  k : Blk wr w.heap.size 27 (ints .u8 key)
  n : Blk wr (w.heap.size + 1) 91 (ints .u8 nonce)
  o : Blk wr (w.heap.size + 1 + 1) 5 (ints .u8 out)
  below : Below w.heap.size w wr
  size : w.heap.size + 1 + 1 < wr.heap.size

/-- In a block of the stream. -/
structure XI (w wr : World) (H : Nat) (key nonce out blk : List Int) : Prop extends XS w wr key nonce out where
  s : Blk wr H 142 (ints .u8 blk)
  lt : w.heap.size + 1 + 1 < H
theorem XI.start {w wr wx : World} {key nonce out blk : List Int} (h : XS w wr key nonce out) (hb : Below wr.heap.size wr wx) :
    XI w ((wx.alloc (.cells (ints .u8 (List.replicate 64 0)).toArray 142)).setRow wx.heap.size (ints .u8 blk).toArray) wx.heap.size key nonce out blk := by
  have h1 := h.size
  have h2 := hb.size
  refine ⟨⟨((h.k.belowAll hb).alloc _).setRowOther (by omega) _, ((h.n.belowAll hb).alloc _).setRowOther (by omega) _, ((h.o.belowAll hb).alloc _).setRowOther (by omega) _, ?_, by simp; omega⟩, (Blk.new wx 142 _).setRow _, by omega⟩
  exact below_setRow ((below_then h.below (by omega) hb).alloc (by omega) _) (by omega) _
theorem XI.next {w wr : World} {H : Nat} {key nonce out blk : List Int} (h : XI w wr H key nonce out blk) (i : Nat) (x : Int) :
    XI w (wr.setCell ⟨w.heap.size + 1 + 1, i, none⟩ (.int .u8 x)).drew H key nonce (out.set i x) blk := by
  have h1 := h.lt
  refine ⟨⟨(h.k.setOther (by simp; omega) _).drew, (h.n.setOther (by simp) _).drew, (h.o.setI i x).drew, (h.below.setCell (by simp; omega) _).drew, by simpa [World.setCell] using h.size⟩, (h.s.setOther (by simp; omega) _).drew, h1⟩

set_option maxHeartbeats 4000000 in
set_option maxRecDepth 100000 in
theorem xor_calls (key nonce xs : List Int) (c : Int) (A : Option Addr) (cap : Nat) (w : World) (hk : key.length = 32) (hn : nonce.length = 12) (rk : bytesOk key) (rn : bytesOk nonce) (hc : 0 ≤ c ∧ c < 4294967296)
    (hr : Rd w A .u8 xs) (hl : xs.length ≤ 1000000) :
    Calls Tryd.prog 95 #[.agg (ints .u8 key).toArray, .int .u32 c, .agg (ints .u8 nonce).toArray, .slice A xs.length cap] w fun e w' =>
      ∃ g, e = .returned (.slice (some ⟨g, 0, none⟩) xs.length xs.length) ∧ w.heap.size ≤ g ∧ Blk w' g 5 (ints .u8 (xorStream key c nonce xs)) ∧ Below w.heap.size w w' := by
  have HK := hid hk
  have HN := hid hn
  have HC := hid hc
  have HR := hid hr
  clear hk hn hc hr
  obtain ⟨n, hnx⟩ : ∃ n, Hd (n = xs.length) := ⟨_, hid rfl⟩
  rw [← hnx.out] at hl ⊢
  have hmk := run_make_row' (P := Tryd.prog) 24 5 (.int .u8 0) 1 undBytes infoU8 rfl .i64 .i64 n (by omega) (by omega)
  go_enter Tryd.func95, Tryd.ntmps95
  go_wp2_with fail
  clear hmk
  go_loopg [1, 10] (n + 64) (fun kq v1 v10 wr => ∃ j : Nat, v10 = .int .i64 (64 * (j : Int)) ∧ v1 = .int .u32 (ctr c j) ∧ Hd (kq + 64 * j = n + 64) ∧ XS w wr key nonce (xorTo key c nonce xs (min (64 * j) n)))
  case atStart =>
    refine ⟨0, rfl, by rw [ctr_zero HC.out], hid (by omega), ?_, ?_, ?_, ?_, ?_⟩
    · exact ((Blk.new w 27 (ints .u8 key)).alloc _).alloc _
    · exact (Blk.new' (w.alloc _) 91 (ints .u8 nonce) _ (by simp)).alloc _
    · rw [made_ints]
      have := Blk.new' ((w.alloc (.cells (ints .u8 key).toArray 27)).alloc (.cells (ints .u8 nonce).toArray 91)) 5 (ints .u8 (List.replicate n 0)) (w.heap.size + 1 + 1) (by simp)
      rw [show xorTo key c nonce xs (min (64 * 0) n) = List.replicate n 0 by simp [xorTo, hnx.out]]
      exact this
    · exact (((Below.refl _ _).alloc (Nat.le_refl _) _).alloc (by simp) _).alloc (by simp; omega) _
    · simp
  case round =>
    obtain ⟨j, rfl, rfl, hq, hS⟩ := hrel
    by_cases hlt : 64 * j < n
    · have hi1 : (64 * (j : Int)) < n := by omega
      have hd1 : decide ((64 * (j : Int)) < n) = true := by simp; omega
      have hk32 : (ints .u8 key).length = 32 := by simpa using HK.out
      have hn12 : (ints .u8 nonce).length = 12 := by simpa using HN.out
      go_wp2_with (first
        | (refine load_blk rfl 27 _ rfl w.heap.size rfl 27 _ hS.k 32 5 arr23 hk32 info23 ?_)
        | (refine load_blk rfl 91 _ rfl (w.heap.size + 1) rfl 91 _ hS.n 12 5 arr24 hn12 info24 ?_)
        | (go_at_call 106; refine (block_calls key nonce (ctr c j) _ HK.out HN.out rk rn (ctr_bound c j)).mono ?_; rintro e wx ⟨rfl, hb⟩)
        | (refine store_blk rfl 142 _ _ rfl wx.heap.size _ rfl rfl 142 _ (Blk.new wx 142 (ints .u8 (List.replicate 64 0))) 64 info44 (by simpa using block_length key (ctr c j) nonce) (by simp) (ints_one _ _) ?_))
      have hI := XI.start hS hb (blk := block key (ctr c j) nonce)
      clear hS hb hk32 hn12
      obtain ⟨H, hH⟩ : ∃ H, H = wx.heap.size := ⟨_, rfl⟩
      obtain ⟨wo, rfl⟩ : ∃ wo : World, wo = wr := ⟨_, rfl⟩
      obtain ⟨gk1, hgk⟩ : ∃ g : Nat, Hd (g = gk) := ⟨gk, hid rfl⟩
      have hq1 : Hd (gk1 + 64 * j = n + 64) := hid (by rw [hgk.out]; exact hq.out)
      have hm : min (64 * j) n = 64 * j := by omega
      rw [hm] at hI
      rw [← hH] at hI ⊢
      clear hH hm hq
      go_loopg [12] 64 (fun kq v12 wr => ∃ i : Nat, v12 = .int .i64 i ∧ 64 * j ≤ i ∧ i ≤ 64 * j + 64 ∧ i ≤ n ∧ Hd (kq + i = 64 * j + 64) ∧ XI w wr H key nonce (xorTo key c nonce xs i) (block key (ctr c j) nonce))
      case atStart => exact ⟨64 * j, by go_num, by omega, by omega, by omega, hid (by omega), hI⟩
      case round =>
        clear hI
        obtain ⟨i, rfl, hi1, hi2, hi3, hq, hI⟩ := hrel
        by_cases hlt2 : i < n ∧ i < 64 * j + 64
        · obtain ⟨hlt3, hlt4⟩ := hlt2
          obtain ⟨g, o, rfl⟩ := HR.out.at (by rw [← hnx.out]; omega)
          have cb := ((HR.out.below hI.below).cellAt i (by rw [← hnx.out]; omega))
          obtain ⟨k, hk, hk64⟩ : ∃ k : Nat, Hd (i = 64 * j + k) ∧ k < 64 := ⟨i - 64 * j, hid (by omega), by omega⟩
          have cs := hI.s.cellI k (by rw [block_length]; omega)
          have co := hI.o.cellI i (by rw [xorTo_length, ← hnx.out]; omega)
          have fo := hI.o.frozen i
          have hx : Hd (xorByte key c nonce xs i = bits .xor .u8 (rd xs i) (rd (block key (ctr c j) nonce) k)) := hid (by
            have e1 : i / 64 = j := by have := hk.out; omega
            have e2 : i % 64 = k := by have := hk.out; omega
            rw [xorByte, e1, e2])
          go_wp2_with fail
          all_goals
            have a1 : IntKind.i64.wrap ((i : Int) - 64 * (j : Int)) = (k : Int) := by
              have := hk.out
              rw [IntWalk.i64_in _ (by omega)]
              omega
            have a2 : (i : Int) < n := by omega
            have a3 : (k : Int) < 64 := by omega
            refine wp_region_still_tail 13 (by kernel_rfl) (by kernel_rfl) ?_
            simp only [List.take_succ_cons, List.take_zero, List.drop_succ_cons, List.drop_zero]
            change wpStill _ _ (World.drew _) (fun a' => wpList _ _ _ _ a' (World.drew _)) _ _
            repeat still_step
            refine wpStill_nil ?_
            change wpList _ _ _ _ _ _
            clear a1 a2 a3
            go_wp2_with fail
            go_roundg (gk - 1)
            case measure => have := hq.out; omega
            case rel =>
              refine ⟨i + 1, by go_num, by omega, by omega, by omega, hid (by have := hq.out; omega), ?_⟩
              rw [xorTo_succ, hx.out]
              exact hI.next i _
        · go_wp2_with fail
          all_goals
            go_roundg (gk1 - 64)
            case measure => have := hq1.out; have := hgk.out; omega
            case rel =>
              refine ⟨j + 1, by go_num, by rw [ctr_succ], hid (by have := hq1.out; omega), ?_⟩
              rw [show min (64 * (j + 1)) n = i by omega]
              exact hI.toXS
    · have hd1 : decide ((64 * (j : Int)) < n) = false := by simp; omega
      go_wp2_with fail
      go_ret
      rw [show min (64 * j) n = xs.length by rw [← hnx.out]; omega] at hS
      exact ⟨w.heap.size + 1 + 1, rfl, by omega, hS.o, hS.below⟩
end Go.Proofs.YtlikinglgegclaaDoor
/- append(s, make([]T, n)...): numbers, zeros behind them. -/
namespace Go.Cour
open Go.RowKit
theorem zeroCells_eq (k : IntKind) (n : Nat) : Builtin.zeroCells (Value.int k 0).cells n = (ints k (List.replicate n 0)).toArray := by
  apply Array.toList_inj.1
  have : Builtin.zeroCells (Value.int k 0).cells n = madeCells #[Value.int k 0] n := by simp [Builtin.zeroCells, madeCells, Value.cells]
  rw [this, toList_madeCells_one]
  simp [ints]
theorem growslice_le {old need bytes : Nat} (h : old < need) (hb : need * bytes ≤ 140737488355328) : Builtin.nextslicecap need old * bytes ≤ 281474976710656 := by
  have h1 := nextslicecap_le h
  calc Builtin.nextslicecap need old * bytes ≤ (2 * need) * bytes := Nat.mul_le_mul_right _ h1
    _ = 2 * (need * bytes) := Nat.mul_assoc _ _ _
    _ ≤ 281474976710656 := by omega
theorem run_append_zeros {P : Program} (w : World) (t tn ty e : TypeId) (k kq kn : IntKind) (bytes : Nat) (ht : P.underlying t = some (.slice e)) (htn : P.underlying tn = some (.int kn))
    (hi : (P.info? e).map (fun i => (i.zero, i.size, i.bytes)) = some (some (.int k 0), 1, bytes))
    (base : Nat) (v : Value) (xs : List Int) (hown : Own w base e k v xs) (m : Nat) (hbytes : (xs.length + m) * bytes ≤ 140737488355328) (h63 : xs.length + m ≤ 140737488355328) (hbase : base ≤ w.heap.size) :
    ∃ v' w', (Builtin.append_ #[t, tn] ty #[v, .int kq m]).run P w = .ok v' w' ∧ Own w' base e k v' (xs ++ List.replicate m 0) ∧ w.grownBy w' v.ownBlock := by
  obtain ⟨i, hi0, hz0, hz1, hz2⟩ := info_parts hi
  subst hz2
  have hmb : m * i.bytes ≤ 281474976710656 := Nat.le_trans (Nat.mul_le_mul_right _ (Nat.le_add_left _ _)) (Nat.le_trans hbytes (by omega))
  have hw : IntKind.i64.wrap (m : Int) = m := by rw [IntKind.wrap_i64]; omega
  have hneg : ¬ ((m : Int) < 0) := by omega
  have h48i : ¬ (281474976710656 < (m : Int) * (i.bytes : Int)) := by
    rw [← Int.natCast_mul]; omega
  have hw0 : IntKind.i64.wrap 0 = 0 := by rw [IntKind.wrap_i64]; rfl
  have hlen : (ints k (xs ++ List.replicate m 0)).length = (xs ++ List.replicate m 0).length * 1 := by simp [ints]
  by_cases hm : m = 0
  · subst hm
    refine ⟨v, w, ?_, by simpa using hown, ⟨rfl, rfl, rfl, Nat.le_refl _, fun _ _ _ => rfl⟩⟩
    rcases hown.2 with ⟨rfl, hx⟩ | ⟨g, cap, cur, rfl, hbg, hg, hnc, hcm, hcs, htake⟩
    · simp [Builtin.append_, run_underlying ht, run_underlying htn, sizeOf, typeInfo, hi0, asInt, asIntOf, hw0, hx]
    · simp [Builtin.append_, run_underlying ht, run_underlying htn, sizeOf, typeInfo, hi0, asInt, asIntOf, hw0, hnc, storeCells]
  · have hgrow : ∀ (base0 : Option Addr) (cap : Nat), (Builtin.firstCells i.size xs.length (.slice base0 xs.length cap)).run P w.drew = .ok (ints k xs).toArray w.drew → cap < xs.length + m →
        ∃ v' w', (Builtin.append_ #[t, tn] ty #[.slice base0 xs.length cap, .int kq m]).run P w = .ok v' w' ∧ Own w' base e k v' (xs ++ List.replicate m 0) ∧ ∀ row, w.grownBy w' row := by
      intro base0 cap hf hcap
      have hr := Lib.run_append_grow_zeros (P := P) w t tn ty e i (.int k 0) kq kn ht htn hi0 hz0 base0 xs.length cap (ints k xs) hf m (by omega) (by omega) hcap (by omega) hmb (growslice_le hcap hbytes)
      rw [zeroCells_eq, zeroCells_eq] at hr
      have hge := grownCap_ge w (xs.length + m) cap e
      have hcm : grownCap w (xs.length + m) cap e ≤ maxLen := grownCap_le_maxLen w (xs.length + m) cap e (by unfold maxLen; omega)
      refine ⟨_, _, hr, ⟨hlen, .inr ⟨w.heap.size, _, _, ?_, hbase, heap_alloc_new w.drew _, ?_, hcm, ?_, ?_⟩⟩, fun row => ⟨rfl, rfl, rfl, by simp, fun j hj _ => heap_alloc_old w.drew _ hj⟩⟩
      · simp
      · simpa using hge
      · simp [ints]; omega
      · simp only [Array.toList_append, Nat.mul_one]
        rw [ints_append, List.take_append_of_le_length (by simp [ints])]
        exact List.take_of_length_le (by simp [ints])
    rcases hown.2 with ⟨rfl, hx⟩ | ⟨g, cap, cur, rfl, hbg, hg, hnc, hcm, hcs, htake⟩
    · have hxs : xs = [] := List.length_eq_zero_iff.1 hx
      subst hxs
      obtain ⟨v', w', h1, h2, h3⟩ := hgrow none 0 (by simp [Builtin.firstCells, ints]) (by simp; omega)
      exact ⟨v', w', h1, h2, h3 _⟩
    · by_cases hroom : xs.length + m ≤ cap
      · have hst := run_storeCells_at (P := P) g xs.length e (ints k (List.replicate m 0)) 0 cur w hg (by simp [ints]; omega) (fun u hu => by
          obtain ⟨x, _, rfl⟩ := List.mem_map.1 hu; rfl)
        refine ⟨.slice (some ⟨g, 0, none⟩) (xs.length + m) cap, w.setRow g (cur.toList.take (xs.length + 0) ++ ints k (List.replicate m 0) ++ cur.toList.drop (xs.length + 0 + (ints k (List.replicate m 0)).length)).toArray, ?_, ⟨hlen, .inr ⟨g, cap, _, by simp, hbg, setRow_heap w g cur _ e (0, 0) hg, by simpa using hroom, hcm, ?_, ?_⟩⟩, ⟨rfl, rfl, rfl, by simp [World.setRow], fun j _ hj => setRow_other w g j _ (fun he => hj (by simp [Value.ownBlock, he]))⟩⟩
        · simp [Builtin.append_, run_underlying ht, run_underlying htn, sizeOf, typeInfo, zeroValue, hi0, hz0, hz1, asInt, asIntOf, hw, hneg, h48i, hroom, hm, zeroCells_eq, add_lit, hst]
        · simp [ints]; omega
        · have htk : cur.toList.take xs.length = ints k xs := by simpa using htake
          simp only [Nat.add_zero, Nat.mul_one]
          rw [htk, ints_append, List.take_append_of_le_length (by simp [ints])]
          exact List.take_of_length_le (by simp [ints])
      · have holds : ∀ (j : Nat) u, (ints k xs)[j]? = some u → w.cell? ((⟨g, 0, none⟩ : Addr).add j) = some u := World.ownsRow.cells (g := g) hown rfl
        obtain ⟨v', w', h1, h2, h3⟩ := hgrow (some ⟨g, 0, none⟩) cap (by
          have h9 := run_firstCells_some (P := P) w.drew i.size xs.length ⟨g, 0, none⟩ xs.length cap (ints k xs) (by simp [ints, hz1]) (by simpa using holds)
          exact h9) (by omega)
        exact ⟨v', w', h1, h2, h3 _⟩
/-- append(s, make([]T, n)...): s the call's own. -/
theorem append_zeros {P : Program} {w : World} {ops : Array Oper} {rest : List Oper} {o : Oper} {a : Act} {Q : Exit → Act → World → Prop} (hgd : o.guard = none) (s x : Operand) (t tn : TypeId)
    (ho : o.op = .call { callee := .builtin .append, args := #[s, x], argTypes := #[t, tn] })
    (base : Nat) (e : TypeId) (k kq kn : IntKind) (bytes : Nat) (ht : P.underlying t = some (.slice e)) (htn : P.underlying tn = some (.int kn)) (hi : (P.info? e).map (fun i => (i.zero, i.size, i.bytes)) = some (some (.int k 0), 1, bytes))
    (v : Value) (xs : List Int) (hs : a.eval s = v) (hown : Own w base e k v xs) (m : Nat) (hx : a.eval x = .int kq m)
    (hbytes : (xs.length + m) * bytes ≤ 140737488355328) (h63 : xs.length + m ≤ 140737488355328) (hbase : base ≤ w.heap.size)
    (h : ∀ v' w', Own w' base e k v' (xs ++ List.replicate m 0) → w.grownBy w' v.ownBlock → wpList P ops Q rest (a.put o.dst v') w') : wpList P ops Q (o :: rest) a w := by
  obtain ⟨v', w', hr, h1, h2⟩ := run_append_zeros (P := P) w t tn o.type e k kq kn bytes ht htn hi base v xs hown m hbytes h63 hbase
  exact Lib.wpList_append_run w hgd s x t tn ho v (.int kq m) hs hx v' w' hr (h v' w' h1 h2)
end Go.Cour
/- aead.padded, aead.length. -/
namespace Go.Proofs.YtlikinglgegclaaDoor
open Go.RowKit Go.Cour
/-- How many zeros fill n to sixteens. -/
def gap (n : Nat) : Nat := (16 - n % 16) % 16
def padTo (xs b : List Int) : List Int := xs ++ b ++ List.replicate (gap b.length) 0
theorem undI : Tryd.prog.underlying 3 = some (.int .i64) := by kernel_rfl
set_option maxHeartbeats 1000000 in
set_option maxRecDepth 100000 in
theorem padded_calls (base : Nat) (v : Value) (xs b : List Int) (A : Option Addr) (c n : Nat) (w : World) (hn : n = b.length) (hA : A = none → c = 0) (hr : Rd w A .u8 b) (hown : Own w base 5 .u8 v xs)
    (hl : xs.length ≤ 1000000) (hlb : b.length ≤ 1000000) (hbase : base ≤ w.heap.size) :
    Calls Tryd.prog 107 #[v, .slice A n c] w fun e w' => ∃ v', e = .returned v' ∧ Own w' base 5 .u8 v' (padTo xs b) ∧ Below base w w' := by
  subst hn
  have h1 : (b.length : Int).tmod 16 = ((b.length % 16 : Nat) : Int) := by
    rw [Int.tmod_eq_emod_of_nonneg (by omega)]; omega
  obtain ⟨r, hr0⟩ : ∃ r, r = b.length % 16 := ⟨_, rfl⟩
  rw [← hr0] at h1
  have h2 : IntKind.i64.wrap (16 - (r : Int)) = ((16 - r : Nat) : Int) := by rw [IntKind.wrap_i64]; omega
  obtain ⟨q, hq⟩ : ∃ q, q = 16 - r := ⟨_, rfl⟩
  rw [← hq] at h2
  have h3 : (q : Int).tmod 16 = ((gap b.length : Nat) : Int) := by
    rw [Int.tmod_eq_emod_of_nonneg (by omega)]; unfold gap; omega
  have hgap : gap b.length < 16 := by unfold gap; omega
  clear hq hr0
  go_enter Tryd.func107, Tryd.ntmps107
  go_wp2_with (first
    | (at_builtin; refine append_list rfl (.tmp 5) (.tmp 6) 24 rfl base 5 .u8 1 undBytes infoU8 _ xs rfl hown A b.length c b rfl rfl hA hr (by omega) (by omega) hbase ?_; intro v1 w1 ho1 hg1)
    | (at_builtin; refine append_zeros rfl (.tmp 8) (.tmp 13) 24 3 rfl base 5 .u8 .i64 .i64 1 undBytes undI infoU8 _ (xs ++ b) rfl ho1 (gap b.length) rfl (by simp; omega) (by simp; omega) (Nat.le_trans hbase hg1.size) ?_; intro v2 w2 ho2 hg2)
    | fail)
  go_ret
  have hB1 := hown.grown_below (Below.refl base w) hg1 hbase (Nat.le_refl _)
  have hB2 := ho1.grown_below hB1 hg2 (Nat.le_trans hbase hg1.size) (Nat.le_refl _)
  exact ⟨v2, by simp, ho2, hB2⟩
/-- A length, in eight bytes. -/
def lenTo (n : Nat) (i : Nat) : List Int := (List.range i).map fun j => (n : Int) / 2 ^ (8 * j) % 256
theorem lenTo_succ (n i : Nat) : lenTo n (i + 1) = lenTo n i ++ [(n : Int) / 2 ^ (8 * i) % 256] := by simp [lenTo, List.range_succ]
theorem lenTo_length (n i : Nat) : (lenTo n i).length = i := by simp [lenTo]
set_option maxHeartbeats 1000000 in
set_option maxRecDepth 100000 in
theorem length_calls (base : Nat) (v : Value) (xs : List Int) (A : Option Addr) (c n : Nat) (w : World) (hown : Own w base 5 .u8 v xs) (hl : xs.length ≤ 1000000) (hln : n ≤ 1000000) (hbase : base ≤ w.heap.size) :
    Calls Tryd.prog 109 #[v, .slice A n c] w fun e w' => ∃ v', e = .returned v' ∧ Own w' base 5 .u8 v' (xs ++ lenTo n 8) ∧ Below base w w' := by
  go_enter Tryd.func109, Tryd.ntmps109
  go_wp2
  go_loopg [0, 6] 8 (fun kq v0 v6 wr => ∃ i : Nat, i ≤ 8 ∧ v6 = .int .i64 i ∧ Hd (kq + i = 8) ∧ Own wr base 5 .u8 v0 (xs ++ lenTo n i) ∧ Hd (Below base w wr))
  case atStart => exact ⟨0, by omega, rfl, hid rfl, by simpa [lenTo] using hown, hid (Below.refl _ _)⟩
  case round =>
    obtain ⟨i, hi, rfl, hk, ho, hb⟩ := hrel
    by_cases hlt : i < 8
    · have hz : base ≤ wr.heap.size := Nat.le_trans hbase hb.out.size
      have hle : (xs ++ lenTo n i).length ≤ 1000008 := by rw [List.length_append, lenTo_length]; omega
      have HLE := hid hle
      clear hle
      go_wp2_with (first | (at_builtin; refine append_one rfl (.tmp 9) (.tmp 17) 24 rfl base 5 .u8 1 undBytes infoU8 _ (xs ++ lenTo n i) rfl ho _ rfl (by have := HLE.out; omega) (by have := HLE.out; omega) hz ?_; intro v' w1 ho' hg') | fail)
      go_roundg (gk - 1)
      case measure => have := hk.out; omega
      case rel =>
        refine ⟨i + 1, by omega, by go_num, hid (by have := hk.out; omega), ?_, hid (ho.grown_below hb.out hg' hz (Nat.le_refl _))⟩
        rw [lenTo_succ, ← List.append_assoc]; exact ho'
    · obtain rfl : i = 8 := by omega
      go_wp2
      go_ret
      exact ⟨_, by simp, ho, hb.out⟩
end Go.Proofs.YtlikinglgegclaaDoor
/- XFacts, with what holds ahead of an operation as long as it has not run (U), and a relation for each operation (R i). -/
namespace Go.Cour
/-- What stands behind operation i. -/
structure FPostU (a0 : Act) (S : World → Prop) (R : World → World → Prop) (f : Fact) (i : Nat) (d : Option Tmp) (vs : Nat → Value) (w : World) (a' : Act) (w' : World) : Prop where
  defers : a'.defers = a0.defers
  fact : f.at (fun j => if j = i then got a' d else vs j) w'
  s : S w'
  r : R w w'
/-- Each pair (j, i) of ks: what ends fact j stands behind operation i. -/
def chkKs (ops : Array Oper) (kill : Nat → Option Nat) (ks : List (Nat × Nat)) : Bool := ks.all fun x => match kill x.1 with
  | none => true
  | some k => waitsT ops 30 k x.2
section
variable (P : Program) (ops : Array Oper) (a0 : Act) (S : World → Prop) (R : Nat → World → World → Prop) (U : Nat → World → Prop) (kill : Nat → Option Nat) (ks : List (Nat × Nat)) (F : Nat → Fact)
/-- Operation i, with what it waits for behind it, shows its fact. -/
def FStepU (i : Nat) (o : Oper) : Prop := ∀ (vs : Nat → Value) (w : World), S w → U i w → (∀ e ∈ o.after, Region.binds .any e = true → (∀ k, kill e.on = some k → k = i ∨ (e.on, i) ∈ ks) → (F e.on).at vs w) →
  wpList P ops (fun ex a' w' => match ex with
    | .normal => FPostU a0 S (R i) (F i) i o.dst vs w a' w'
    | _ => False) [o] (fill vs 0 (ops.toList.take i) a0) w
def FStepsU : Nat → List Oper → Prop
  | _, [] => True
  | k, o :: rest => FStepU P ops a0 S R U kill ks F k o ∧ FStepsU (k + 1) rest
theorem FStepsU.get : ∀ (l : List Oper) (k : Nat), FStepsU P ops a0 S R U kill ks F k l → ∀ j o, l[j]? = some o → FStepU P ops a0 S R U kill ks F (k + j) o
  | [], _, _, j, o, h => by simp at h
  | o0 :: l, k, hs, 0, o, h => by simp only [List.getElem?_cons_zero, Option.some.injEq] at h; subst h; exact hs.1
  | o0 :: l, k, hs, j + 1, o, h => by
    have := FStepsU.get l (k + 1) hs.2 j o (by simpa using h)
    rwa [show k + 1 + j = k + (j + 1) by omega] at this
end
section
variable {P : Program} {ops : Array Oper} {a0 : Act} {S : World → Prop} {R : Nat → World → World → Prop} {U : Nat → World → Prop} {kill : Nat → Option Nat} {ks : List (Nat × Nat)} {ix : List (List Nat)} {p : Nat → (Nat → Value) → World → Prop} {Q : Exit → Act → World → Prop}
structure FInvU (ops : Array Oper) (a0 : Act) (S : World → Prop) (U : Nat → World → Prop) (kill : Nat → Option Nat) (F : Nat → Fact) (listed : Array Bool) (vs : Nat → Value) (a : Act) (w : World) : Prop where
  lsize : listed.size = ops.size
  closed : ∀ (j : Nat) (oj : Oper), ops[j]? = some oj → listed.getD j false = true → ∀ e ∈ oj.after, Region.binds .any e = true → listed.getD e.on false = true
  size : a.tmps.size = a0.tmps.size
  defers : a.defers = a0.defers
  slot : ∀ (j : Nat) (o : Oper) (d : Nat), ops[j]? = some o → listed.getD j false = true → o.dst = some d → d < a0.tmps.size → a.tmps[d]? = some (vs j)
  other : ∀ (t : Nat), (∀ (j : Nat) (o : Oper), ops[j]? = some o → listed.getD j false = true → o.dst ≠ some t) → a.tmps[t]? = a0.tmps[t]?
  s : S w
  unl : ∀ (j : Nat) (o : Oper), ops[j]? = some o → listed.getD j true = false → U j w
  facts : ∀ (j : Nat) (o : Oper), ops[j]? = some o → listed.getD j false = true → (∀ k, kill j = some k → listed.getD k true = false) → (F j).at vs w
theorem FInvU.filled {F : Nat → Fact} {listed : Array Bool} {vs : Nat → Value} {a : Act} {w : World} (hc : Chk ops ix) (h : FInvU ops a0 S U kill F listed vs a w)
    (hall : ∀ j, j < ops.size → listed.getD j false = true) : a = fill vs 0 ops.toList a0 := by
  have ht : ∀ t : Nat, a.tmps[t]? = (fill vs 0 ops.toList a0).tmps[t]? := fun t => by
    by_cases hx : ∃ (j : Nat) (o : Oper), ops[j]? = some o ∧ o.dst = some t
    · obtain ⟨j, o, ho, hd⟩ := hx
      have hj := (Array.getElem?_eq_some_iff.1 ho).1
      by_cases hlt : t < a0.tmps.size
      · rw [h.slot j o t ho (hall j hj) hd hlt, fill_at vs t ops.toList 0 a0 j o (by simpa using ho) hd hlt (fun j' o' h1 h2 => hc.dist j o ho j' o' (by simpa using h1) h2 t hd)]
        simp
      · rw [Array.getElem?_eq_none (by rw [h.size]; omega), Array.getElem?_eq_none (by rw [fill_size]; omega)]
    · rw [h.other t (fun j o ho _ hd => hx ⟨j, o, ho, hd⟩), fill_other vs t _ _ _ (fun o ho hd => by
        obtain ⟨j, hj⟩ := List.getElem?_of_mem ho
        exact hx ⟨j, o, by simpa using hj, hd⟩)]
  have h1 : a.tmps = (fill vs 0 ops.toList a0).tmps := Array.ext_getElem? ht
  have h2 : a.defers = (fill vs 0 ops.toList a0).defers := by rw [fill_defers, h.defers]
  cases a; cases hf : fill vs 0 ops.toList a0
  rw [hf] at h1 h2
  simp_all
theorem FInvU.waits {F : Nat → Fact} {listed : Array Bool} {vs : Nat → Value} {a : Act} {w : World} (h : FInvU ops a0 S U kill F listed vs a w) {i : Nat} (hun : listed.getD i true = false) :
    ∀ (n k : Nat), waitsT ops n k i = true → listed.getD k true = false
  | 0, k, hw => by
    have : k = i := by simpa [waitsT] using hw
    rw [this]; exact hun
  | n + 1, k, hw => by
    unfold waitsT at hw
    rw [Bool.or_eq_true] at hw
    rcases hw with hw | hw
    · have : k = i := by simpa using hw
      rw [this]; exact hun
    · cases ho : ops[k]? with
      | none => simp [ho] at hw
      | some o =>
        simp only [ho] at hw
        obtain ⟨e, he, hb⟩ := Array.any_eq_true'.1 hw
        simp only [Bool.and_eq_true] at hb
        have h1 := FInvU.waits h hun n e.on hb.2
        have hlt := (Array.getElem?_eq_some_iff.1 ho).1
        cases hl : listed.getD k false with
        | false => exact getD_in (by rw [h.lsize]; exact hlt) hl
        | true =>
          have := h.closed k o ho hl e he hb.1
          rw [getD_both h1] at this
          cases this
/-- Where an operation looks, the state at hand and the state filled in order are alike. -/
theorem FInvU.alike {F : Nat → Fact} {listed : Array Bool} {vs : Nat → Value} {a : Act} {w : World} (hc : Chk ops ix) (h : FInvU ops a0 S U kill F listed vs a w)
    {i : Nat} {o : Oper} (ho : ops[i]? = some o) (hd : ∀ e ∈ o.after, Region.binds .any e = true → listed.getD e.on false = true) (hun : listed.getD i true = false) (t : Nat) (ht : t ∈ o.looksAt ops) :
    a.tmps[t]? = (fill vs 0 (ops.toList.take i) a0).tmps[t]? := by
  by_cases hx : ∃ (j : Nat) (oj : Oper), ops[j]? = some oj ∧ oj.dst = some t
  · obtain ⟨j, oj, hj, hdj⟩ := hx
    rcases hc.looks i o ho t ht j oj hj hdj with ⟨e, he, hb, rfl⟩ | ⟨hij, hwt⟩
    case inr =>
      have hnl := h.waits hun 30 j hwt
      rw [h.other t (fun j' oj' hj' hl' hd' => by
        by_cases hjj : j' = j
        · subst hjj; rw [getD_both hnl] at hl'; cases hl'
        · exact hc.dist j oj hj j' oj' hj' hjj t hdj hd')]
      rw [fill_other vs t _ _ _ (fun oj' hoj' hdj' => by
        obtain ⟨j', hj'⟩ := List.getElem?_of_mem hoj'
        have hlt' : j' < i := by
          rcases Nat.lt_or_ge j' i with hh | hh
          · exact hh
          · rw [List.getElem?_take_eq_none hh] at hj'; cases hj'
        rw [List.getElem?_take_of_lt hlt'] at hj'
        exact hc.dist j oj hj j' oj' (by simpa using hj') (by omega) t hdj hdj')]
    have hlt := hc.back i o ho e he hb
    by_cases hs : t < a0.tmps.size
    · rw [h.slot _ oj t hj (hd e he hb) hdj hs, fill_at vs t _ 0 a0 e.on oj (by rw [List.getElem?_take_of_lt hlt]; simpa using hj) hdj hs (fun j' o' h1 h2 =>
        hc.dist e.on oj hj j' o' (by
          have : j' < i := by
            rcases Nat.lt_or_ge j' i with hh | hh
            · exact hh
            · rw [List.getElem?_take_eq_none hh] at h1; cases h1
          rw [List.getElem?_take_of_lt this] at h1; simpa using h1) h2 t hdj)]
      simp
    · rw [Array.getElem?_eq_none (by rw [h.size]; omega), Array.getElem?_eq_none (by rw [fill_size]; omega)]
  · rw [h.other t (fun j oj hj _ hdj => hx ⟨j, oj, hj, hdj⟩), fill_other vs t _ _ _ (fun oj hoj hdj => by
      obtain ⟨j, hj⟩ := List.getElem?_of_mem (List.mem_of_mem_take hoj)
      exact hx ⟨j, oj, by simpa using hj, hdj⟩)]
theorem factsU_go (hks : chkKs ops kill ks = true) (hc : Chk ops ix) (hR : ∀ i j vs w w', i ≠ j → Region.waitsFor .any ops j i = false → kill j ≠ some i → R i w w' → (Fact.mk (ix.getD j []) (p j)).at vs w → (Fact.mk (ix.getD j []) (p j)).at vs w')
    (hU : ∀ i j w w', i ≠ j → Region.waitsFor .any ops i j = false → R i w w' → U j w → U j w')
    (hs : FStepsU P ops a0 S R U kill ks (fun i => ⟨ix.getD i [], p i⟩) 0 ops.toList)
    (hQ : ∀ vs w', (∀ j, j < ops.size → kill j = none → (Fact.mk (ix.getD j []) (p j)).at vs w') → S w' → Q .normal (fill vs 0 ops.toList a0) w') :
    ∀ (fuel : Nat) (listed : Array Bool) (LL : List Nat) (vs : Nat → Value) (a : Act) (w : World), (∀ i, i < ops.size → listed.getD i true = false → i ∈ LL) → LL.length ≤ fuel →
      FInvU ops a0 S U kill (fun i => ⟨ix.getD i [], p i⟩) listed vs a w → wpAny P .any ops Q fuel listed a w := by
  have fin : ∀ (listed : Array Bool) (vs : Nat → Value) (a : Act) (w : World), FInvU ops a0 S U kill (fun i => ⟨ix.getD i [], p i⟩) listed vs a w → Region.ready .any ops listed = [] → Q .normal a w := fun listed vs a w hi hr => by
    have hall : ∀ n j, j < n → j < ops.size → listed.getD j false = true := fun n => by
      induction n with
      | zero => intro j hj; omega
      | succ n ih =>
        intro j hj hlt
        by_cases hjn : j < n
        · exact ih j hjn hlt
        · have hjn' : j = n := by omega
          subst hjn'
          cases hl : listed.getD j false with
          | true => rfl
          | false =>
            have hun := getD_in (by rw [hi.lsize]; exact hlt) hl
            have ho : ops[j]? = some ops[j] := Array.getElem?_eq_getElem hlt
            have : j ∈ Region.ready .any ops listed := mem_ready.2 ⟨hun, ops[j], ho, fun e he hb => ih e.on (hc.back j _ ho e he hb) (by have := hc.back j _ ho e he hb; omega)⟩
            rw [hr] at this
            cases this
    rw [hi.filled hc (fun j hj => hall (j + 1) j (by omega) hj)]
    exact hQ vs w (fun j hj hkn => hi.facts j ops[j] (Array.getElem?_eq_getElem hj) (hall (j + 1) j (by omega) hj) (fun k hk => by rw [hkn] at hk; cases hk)) hi.s
  intro fuel
  induction fuel with
  | zero =>
    intro listed LL vs a w hLL hl hi
    have hr : Region.ready .any ops listed = [] := by
      rcases hx : Region.ready .any ops listed with _ | ⟨i, l⟩
      · rfl
      · have hm : i ∈ Region.ready .any ops listed := by rw [hx]; exact List.mem_cons_self ..
        obtain ⟨hun, o, ho, _⟩ := mem_ready.1 hm
        have := hLL i (Array.getElem?_eq_some_iff.1 ho).1 hun
        have hL0 : LL = [] := List.length_eq_zero_iff.1 (by omega)
        rw [hL0] at this
        cases this
    exact ⟨hr, fin listed vs a w hi hr⟩
  | succ fuel ih =>
    intro listed LL vs a w hLL hl hi
    refine ⟨fin listed vs a w hi, fun i hir => ?_⟩
    obtain ⟨hun, o, ho, hall⟩ := mem_ready.1 hir
    have hlt := (Array.getElem?_eq_some_iff.1 ho).1
    have hst := FStepsU.get P ops a0 S R U kill ks _ ops.toList 0 hs i o (by simpa using ho)
    rw [Nat.zero_add] at hst
    have hstep := hst vs w hi.s (hi.unl i o ho hun) (fun e he hb hkk => hi.facts e.on _ (Array.getElem?_eq_getElem (by have := hc.back i o ho e he hb; omega)) (hall e he hb) (fun k hk => by
      rcases hkk k hk with h9 | h9
      · rw [h9]; exact hun
      · have h8 := List.all_eq_true.1 hks _ h9
        simp only [hk] at h8
        exact hi.waits hun 30 k h8))
    have hal := hi.alike hc ho hall hun
    have hex : execOp a.eval o = execOp (fill vs 0 (ops.toList.take i) a0).eval o := execOp_congr o (hc.sel i o ho) fun x hx => by
      cases x with
      | tmp t =>
        have ht : t ∈ o.looksAt ops := List.mem_append_left _ (List.mem_filterMap.2 ⟨.tmp t, by simpa using hx, rfl⟩)
        have := hal t ht
        simp only [Act.eval, Array.getD_eq_getD_getElem?, this]
      | _ => rfl
    have hwa : Region.wanted o (yielded ops a.tmps) = Region.wanted o (yielded ops (fill vs 0 (ops.toList.take i) a0).tmps) := by
      unfold Region.wanted
      cases hg : o.guard with
      | none => rfl
      | some g =>
        obtain ⟨g, want⟩ := g
        have : yielded ops a.tmps g = yielded ops (fill vs 0 (ops.toList.take i) a0).tmps g := by
          unfold yielded
          cases hgd : (ops[g]?).bind (·.dst) with
          | none => rfl
          | some t =>
            have ht : t ∈ o.looksAt ops := List.mem_append_right _ (by simp [hg, hgd])
            simp only [Option.bind_some, hal t ht]
        simp only [this]
    -- one operation's value lands
    have land : ∀ (u : Value) (w' : World), FPostU a0 S (R i) ⟨ix.getD i [], p i⟩ i o.dst vs w ((fill vs 0 (ops.toList.take i) a0).put o.dst u) w' →
        wpAny P .any ops Q fuel (listed.setIfInBounds i true) (a.put o.dst u) w' := fun u w' ⟨_, hf, hS, hRw⟩ => by
      refine ih _ (LL.erase i) (fun j => if j = i then got ((fill vs 0 (ops.toList.take i) a0).put o.dst u) o.dst else vs j) _ _ (fun j hj hjl => ?_) ?_ ⟨?_, ?_, ?_, ?_, ?_, ?_, hS, ?_, ?_⟩
      · by_cases hij : i = j
        · subst hij
          have h0 : i < listed.size := by rw [hi.lsize]; exact hlt
          simp [h0] at hjl
        · rw [getD_set_ne true hij] at hjl
          exact (List.mem_erase_of_ne (Ne.symm hij)).2 (hLL j hj hjl)
      · rw [List.length_erase_of_mem (hLL i hlt hun)]; omega
      · simp [hi.lsize]
      · intro j oj hj hl' e he hb
        by_cases hij : i = j
        · subst hij
          have : oj = o := Option.some.inj (hj.symm.trans ho)
          subst this
          exact getD_set_true (hall e he hb)
        · rw [getD_set_ne false hij] at hl'
          exact getD_set_true (hi.closed j oj hj hl' e he hb)
      · rw [put_size, hi.size]
      · rw [put_defers, hi.defers]
      · intro j oj d hj hl' hd hds
        by_cases hij : i = j
        · subst hij
          have : oj = o := Option.some.inj (hj.symm.trans ho)
          subst this
          simp only [if_true, hd, got]
          rw [put_same _ _ _ (by rw [hi.size]; exact hds)]
          have h9 := put_same (fill vs 0 (ops.toList.take i) a0) d u (by rw [fill_size]; exact hds)
          simp only [Array.getD_eq_getD_getElem?, h9, Option.getD_some]
        · rw [getD_set_ne false hij] at hl'
          rw [put_other _ _ _ _ (fun hdo => hc.dist j oj hj i o ho hij d hd hdo), hi.slot j oj d hj hl' hd hds]
          simp [Ne.symm hij]
      · intro t ht
        have h1 : o.dst ≠ some t := ht i o ho (by
          have h0 : i < listed.size := by rw [hi.lsize]; exact hlt
          simp [h0])
        rw [put_other _ _ _ _ h1]
        exact hi.other t fun j oj hj hl' => ht j oj hj (getD_set_true hl')
      · intro j oj hj hl'
        by_cases hij : i = j
        · subst hij
          have h0 : i < listed.size := by rw [hi.lsize]; exact hlt
          simp [h0] at hl'
        · rw [getD_set_ne true hij] at hl'
          refine hU i j w w' hij ?_ hRw (hi.unl j oj hj hl')
          cases hwf : Region.waitsFor .any ops i j with
          | false => rfl
          | true =>
            obtain ⟨oi, hoi, e, he, hb, rfl⟩ := Region.waitsFor_spec hwf
            have : oi = o := Option.some.inj (hoi.symm.trans ho)
            subst this
            have := hall e he hb
            rw [getD_both hl'] at this
            cases this
      · intro j oj hj hl' hkl
        by_cases hij : i = j
        · subst hij; exact hf
        · rw [getD_set_ne false hij] at hl'
          have hwn : Region.waitsFor .any ops j i = false := by
            cases hwf : Region.waitsFor .any ops j i with
            | false => rfl
            | true =>
              obtain ⟨oj', hoj, e, he, hb, rfl⟩ := Region.waitsFor_spec hwf
              have : oj' = oj := Option.some.inj (hoj.symm.trans hj)
              subst this
              have := hi.closed j oj' hj hl' e he hb
              rw [getD_both hun] at this
              cases this
          have hkn : kill j ≠ some i := by
            intro hk
            have h0 : i < listed.size := by rw [hi.lsize]; exact hlt
            have := hkl i hk
            simp [h0] at this
          have hkk : ∀ k, kill j = some k → listed.getD k true = false := by
            intro k hk
            by_cases hik : i = k
            · subst hik; exact hun
            · have := hkl k hk
              rwa [getD_set_ne true hik] at this
          refine Fact.at_congr _ (fun k hk => ?_) (hR i j vs w w' hij hwn hkn hRw (hi.facts j oj hj hl' hkk))
          have hki : k ≠ i := fun hki => by
            subst hki
            rcases hc.ixs j oj hj k hk with h1 | ⟨e, he, hb, rfl⟩
            · exact hij h1
            · have := hi.closed j oj hj hl' e he hb
              rw [getD_both hun] at this
              cases this
          simp [hki]
    unfold wpOp
    simp only [ho]
    simp only [wpList] at hstep
    rw [hwa]
    split
    · rename_i hw
      simp only [hw, if_true] at hstep
      rcases hstep with hstep | ⟨_, _, _, hf⟩
      case inr => exact hf.elim
      refine .inl ?_
      unfold Oper.wp at *
      rw [hex]
      generalize (execOp (fill vs 0 (ops.toList.take i) a0).eval o).run P w = r at *
      cases r with
      | ok n w' =>
        cases n <;> simp only [Oper.upon] at hstep ⊢
        case value u => exact land u w' hstep
        case skip => exact land _ w' hstep
        case defer d =>
          have := hstep.1
          rw [put_defers, fill_defers] at this
          exact absurd (congrArg List.length this) (by simp)
        case enter f args =>
          refine Calls.mono hstep fun e w'' he => ?_
          cases e with
          | returned u => exact land u w'' he
          | panicked c => exact he.elim
          | outgrown => obtain ⟨_, _, hf⟩ := he; exact hf.elim
        case row row args => exact Rows.mono hstep fun u w'' he => land u w'' he
      | halt x w' =>
        cases x <;> simp only [Oper.upon] at hstep ⊢
    · rename_i hw
      simp only [hw, Bool.false_eq_true, if_false] at hstep
      exact land _ w hstep
/-- A region that draws its order, by facts. -/
theorem wp_region_factsU {id : Nat} {a : Act} {w : World} (ix : List (List Nat)) (S : World → Prop) (R : Nat → World → World → Prop) (U : Nat → World → Prop) (kill : Nat → Option Nat) (p : Nat → (Nat → Value) → World → Prop) (ks : List (Nat × Nat) := [])
    (hm : P.follows .mixedOrders = true) (hc : chk ops ix = true) (hS : S w.drew)
    (hR : ∀ i j vs w w', i ≠ j → Region.waitsFor .any ops j i = false → kill j ≠ some i → R i w w' → (Fact.mk (ix.getD j []) (p j)).at vs w → (Fact.mk (ix.getD j []) (p j)).at vs w')
    (hU0 : ∀ j, U j w.drew) (hU : ∀ i j w w', i ≠ j → Region.waitsFor .any ops i j = false → R i w w' → U j w → U j w')
    (hs : FStepsU P ops a S R U kill ks (fun i => ⟨ix.getD i [], p i⟩) 0 ops.toList)
    (hQ : ∀ vs w', (∀ j, j < ops.size → kill j = none → (Fact.mk (ix.getD j []) (p j)).at vs w') → S w' → Q .normal (fill vs 0 ops.toList a) w') (hks : chkKs ops kill ks = true := by kernel_rfl) : (Code.region id ops true).wp P Q a w := by
  refine wp_region_any hm (factsU_go hks (chk_spec hc) hR hU hs hQ ops.size _ (List.range ops.size) (fun _ => undef) a _ (fun i hi _ => List.mem_range.2 hi) (by simp) ⟨by simp, ?_, rfl, rfl, ?_, fun _ _ => rfl, hS, fun j _ _ _ => hU0 j, ?_⟩)
  · intro j oj _ hl; rw [getD_replicate_false] at hl; cases hl
  · intro j o d _ hl; rw [getD_replicate_false] at hl; cases hl
  · intro j o _ hl _; rw [getD_replicate_false] at hl; cases hl
end
end Go.Cour
