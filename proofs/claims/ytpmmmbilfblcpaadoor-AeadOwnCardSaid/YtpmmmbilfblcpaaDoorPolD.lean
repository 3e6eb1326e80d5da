/- A tag's arithmetic: the least 128 bits of a number below the modulus. -/
import Derived.Test.YtpmmmbilfblcpaaDoorPolA
namespace Go.Proofs.YtpmmmbilfblcpaaDoor
open Go.RowKit Go.Cour
def more5 (a : List Int) : List Int × Int := carryTo (a.set 0 (u64 (rd a 0 + 5))) 5
def lowA (a : List Int) : List Int := if 0 < (more5 (carryN a 2)).2 then (more5 (carryN a 2)).1 else carryN a 2
def lowL (x : List Int) : Int := bits .or .u64 (bits .or .u64 (rd x 0) (u64 (rd x 1 * 67108864))) (u64 (rd x 2 * 4503599627370496))
def lowH (x : List Int) : Int := bits .or .u64 (bits .or .u64 (rd x 2 / 4096) (u64 (rd x 3 * 16384))) (u64 (rd x 4 * 1099511627776))
/-- What the blocks of a call of low hold. -/
structure LS (w wr : World) (H : Nat) (a m : List Int) : Prop where
  a : Blk wr w.heap.size 73 (ints .u64 a)
  m : Blk wr H 73 (ints .u64 m)
  below : Below w.heap.size w wr
  lt : w.heap.size < H
theorem LS.set {w wr : World} {H : Nat} {a m : List Int} (h : LS w wr H a m) (i : Nat) (x : Int) : LS w (wr.setCell ⟨H, i, none⟩ (.int .u64 x)) H a (m.set i x) :=
  ⟨h.a.setOther (by have := h.lt; simp; try omega) _, h.m.setI i x, h.below.setCell (by have := h.lt; simp; try omega) _, h.lt⟩
/-- The world when the second copy is laid. -/
def lowW (w wx : World) (C : List Int) : World := ((wx.setRow w.heap.size (ints .u64 C).toArray).alloc (.cells #[.int .u64 0, .int .u64 0, .int .u64 0, .int .u64 0, .int .u64 0] 73)).setRow wx.heap.size (ints .u64 C).toArray
theorem LS.start {w wx : World} {a C : List Int} (hb : Below (w.alloc (.cells (ints .u64 a).toArray 73)).heap.size (w.alloc (.cells (ints .u64 a).toArray 73)) wx) : LS w (lowW w wx C) wx.heap.size C C := by
  have h0 : Blk (w.alloc (.cells (ints .u64 a).toArray 73)) w.heap.size 73 (ints .u64 a) := Blk.new w 73 _
  have hs := hb.size
  simp at hs
  refine ⟨?_, ?_, ?_, by omega⟩
  · exact (((h0.belowAll hb).setRow _).alloc _).setRowOther (by omega) _
  · exact (Blk.new' (wx.setRow w.heap.size (ints .u64 C).toArray) 73 (ints .u64 (List.replicate 5 0)) _ (by simp)).setRow _
  · refine below_setRow ((below_setRow (below_then (((Below.refl _ _).alloc (Nat.le_refl _) _)) (by simp) hb) (Nat.le_refl _) _).alloc (by simp; omega) _) (by omega) _
theorem LS.cell0 {w wx : World} {a : List Int} (C : List Int) (hb : Below (w.alloc (.cells (ints .u64 a).toArray 73)).heap.size (w.alloc (.cells (ints .u64 a).toArray 73)) wx) (hC : C.length = 5) :
    (((wx.setRow w.heap.size (ints .u64 C).toArray).alloc (.cells #[.int .u64 0, .int .u64 0, .int .u64 0, .int .u64 0, .int .u64 0] 73)).setRow wx.heap.size (ints .u64 C).toArray).cell? ⟨wx.heap.size, 0, none⟩ = some (.int .u64 (rd C 0)) := (LS.start hb (C := C)).m.cellI 0 (by omega)
theorem LS.frozen0 {w wx : World} {a : List Int} (C : List Int) (hb : Below (w.alloc (.cells (ints .u64 a).toArray 73)).heap.size (w.alloc (.cells (ints .u64 a).toArray 73)) wx) :
    (((wx.setRow w.heap.size (ints .u64 C).toArray).alloc (.cells #[.int .u64 0, .int .u64 0, .int .u64 0, .int .u64 0, .int .u64 0] 73)).setRow wx.heap.size (ints .u64 C).toArray).frozen? ⟨wx.heap.size, 0, none⟩ = false := (LS.start hb (C := C)).m.frozen 0
set_option maxHeartbeats 4000000 in
set_option maxRecDepth 100000 in
theorem low_calls (a : List Int) (w : World) (ha : a.length = 5) :
    Calls Tryd.prog 46 #[.agg (ints .u64 a).toArray] w fun e w' => e = .returned (.tuple #[.int .u64 (lowL (lowA a)), .int .u64 (lowH (lowA a))]) ∧ Below w.heap.size w w' := by
  have HA := hid ha
  have hl5 : (ints .u64 a).length = 5 := by rw [ints_length]; exact ha
  have HL := hid hl5
  clear ha hl5
  have hb0 : Blk (w.alloc (.cells (ints .u64 a).toArray 73)) w.heap.size 73 (ints .u64 a) := Blk.new w 73 _
  obtain ⟨C, hC⟩ : ∃ C, Hd (C = carryN a 2) := ⟨_, hid rfl⟩
  have HC : Hd ((ints .u64 C).length = 5) := hid (by rw [ints_length, hC.out, carryN_length]; exact HA.out)
  have hC5 : Hd (C.length = 5) := hid (by rw [hC.out, carryN_length]; exact HA.out)
  go_enter Tryd.func46, Tryd.ntmps46
  go_wp2_with (first
    | (refine load_blk rfl 73 (.tmp 1) rfl w.heap.size rfl 73 _ hb0 5 72 arr73 HL.out info73 ?_)
    | (go_at_call 58; refine (carry_calls a _ HA.out).mono ?_; rintro e wx ⟨rfl, hb⟩; rw [← hC.out])
    | (refine store_blk rfl 73 (.tmp 1) (.tmp 8) rfl w.heap.size _ rfl rfl 73 _ (hb0.belowAll hb) 5 info73 HC.out HL.out (ints_one _ _) ?_)
    | (refine load_blk rfl 73 (.tmp 1) rfl w.heap.size rfl 73 _ ((hb0.belowAll hb).setRow (ints .u64 C)) 5 72 arr73 HC.out info73 ?_)
    | (refine store_blk rfl 73 (.tmp 4) (.tmp 9) rfl _ _ rfl rfl 73 _ (Blk.new' _ _ (ints .u64 (List.replicate 5 0)) _ (by simp)) 5 info73 HC.out (by simp) (ints_one _ _) ?_; have c0 := LS.cell0 C hb hC5.out; have f0 := LS.frozen0 C hb)
    | fail)
  have hS := (LS.start hb (C := C)).set 0 (u64 (rd C 0 + 5))
  unfold lowW at hS
  clear c0 f0 hb hb0 HL
  obtain ⟨M, hM⟩ : ∃ M, Hd (M = C.set 0 (u64 (rd C 0 + 5))) := ⟨_, hid rfl⟩
  have hMl : Hd (M.length = 5) := hid (by rw [hM.out, List.length_set]; exact hC5.out)
  rw [← hM.out] at hS
  obtain ⟨H, hH⟩ : ∃ H, H = wx.heap.size := ⟨_, rfl⟩
  rw [← hH] at hS ⊢
  clear hH
  go_loopg [5, 14] 5 (fun kq v5 v14 wr => ∃ j : Nat, j ≤ 5 ∧ v14 = .int .i64 j ∧ v5 = .int .u64 (carryTo M j).2 ∧ Hd (kq + j = 5) ∧ LS w wr H C (carryTo M j).1)
  case atStart => exact ⟨0, by omega, rfl, rfl, hid rfl, hS⟩
  case round =>
    clear hS
    obtain ⟨j, hj, rfl, rfl, hq2, hS⟩ := hrel
    obtain ⟨Y, o, hY⟩ : ∃ Y o, Hd ((carryTo M j) = (Y, o)) := ⟨_, _, hid rfl⟩
    rw [hY.out] at hS ⊢
    dsimp only at hS ⊢
    have hYl : Y.length = 5 := by have := carryTo_length M j; rw [hY.out] at this; rw [← hMl.out]; exact this
    by_cases hjlt : j < 5
    · have cj := hS.m.cellI j (by omega)
      have fj := hS.m.frozen j
      have cj2 := (hS.set j (u64 (rd Y j + o))).m.cellI j (by simp; omega)
      have fj2 := (hS.set j (u64 (rd Y j + o))).m.frozen j
      rw [rd_set', if_pos ⟨rfl, by omega⟩] at cj2
      have HYl := hid hYl
      clear hYl
      go_wp2_with fail
      go_roundg (gk - 1)
      case measure => have := hq2.out; omega
      case rel =>
        refine ⟨j + 1, by omega, by go_num, ?_, hid (by have := hq2.out; omega), ?_⟩
        · rw [carryTo_succ, hY.out]; rfl
        · rw [carryTo_succ, hY.out]; exact (hS.set j _).set j _
    · obtain rfl : j = 5 := by omega
      have HYl : Hd ((ints .u64 Y).length = 5) := hid (by rw [ints_length]; exact hYl)
      have hY5 := hid hYl
      clear hYl hjlt hj
      have hlow : Hd (lowA a = if 0 < o then Y else C) := hid (by
        rw [lowA, more5, ← hC.out, ← hM.out, hY.out])
      by_cases ho : 0 < o
      · have c0 := (hS.a.setRow (ints .u64 Y)).cellI 0 (by have := hY5.out; omega)
        have c1 := (hS.a.setRow (ints .u64 Y)).cellI 1 (by have := hY5.out; omega)
        have c2 := (hS.a.setRow (ints .u64 Y)).cellI 2 (by have := hY5.out; omega)
        have c3 := (hS.a.setRow (ints .u64 Y)).cellI 3 (by have := hY5.out; omega)
        have c4 := (hS.a.setRow (ints .u64 Y)).cellI 4 (by have := hY5.out; omega)
        have hcl : Hd (lowA a = Y) := hid (by rw [hlow.out, if_pos ho])
        go_wp2_with (first
          | (refine load_blk rfl 73 (.tmp 4) rfl H rfl 73 _ hS.m 5 72 arr73 HYl.out info73 ?_)
          | (refine store_blk rfl 73 (.tmp 1) (.tmp 35) rfl w.heap.size _ rfl rfl 73 _ hS.a 5 info73 HYl.out HC.out (ints_one _ _) ?_)
          | fail)
        go_quiet (fail)
        go_wp2_with fail
        go_ret2
        rw [hcl.out]
        exact ⟨rfl, below_drewN (below_setRow hS.below (Nat.le_refl _) _) _⟩
      · have c0 := hS.a.cellI 0 (by have := hC5.out; omega)
        have c1 := hS.a.cellI 1 (by have := hC5.out; omega)
        have c2 := hS.a.cellI 2 (by have := hC5.out; omega)
        have c3 := hS.a.cellI 3 (by have := hC5.out; omega)
        have c4 := hS.a.cellI 4 (by have := hC5.out; omega)
        have hcl : Hd (lowA a = C) := hid (by rw [hlow.out, if_neg ho])
        go_wp2_with fail
        go_quiet (fail)
        go_wp2_with fail
        go_ret2
        rw [hcl.out]
        exact ⟨rfl, below_drewN hS.below _⟩
end Go.Proofs.YtpmmmbilfblcpaaDoor
