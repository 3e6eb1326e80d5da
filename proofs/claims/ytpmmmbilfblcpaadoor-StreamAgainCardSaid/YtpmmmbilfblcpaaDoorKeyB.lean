/- Key, of a number: 32 numbers that are bytes. -/
import Derived.Test.YtpmmmbilfblcpaaDoorProg
import Derived.Test.YtpmmmbilfblcpaaDoorFirst7
namespace Go.Proofs.YtpmmmbilfblcpaaDoor
open Go.RowKit Go.Cour
theorem info_key : (Tryd.prog.info? 23).map (·.size) = some 32 := by kernel_rfl
theorem arr_key : Tryd.prog.underlying 23 = some (.array 32 5) := by kernel_rfl
set_option maxHeartbeats 1000000 in
set_option maxRecDepth 100000 in
theorem keyB_calls (n : Int) (w : World) :
    Calls Tryd.prog 35 #[.int .i64 n] w fun e w' => ∃ xs : List Int, xs.length = 32 ∧ bytesOk xs ∧ e = .returned (.agg (ints .u8 xs).toArray) ∧ Below w.heap.size w w' := by
  go_enter Tryd.func35, Tryd.ntmps35
  go_wp2
  go_loopg [4] 32 (fun kq v4 wr => ∃ (i : Nat) (xs : List Int), i ≤ 32 ∧ v4 = .int .i64 i ∧ Hd (kq = 32 - i) ∧ Hd (xs.length = 32 ∧ bytesOk xs) ∧ Blk wr (w.heap.size + 1) 23 (ints .u8 xs) ∧ Blk wr w.heap.size 23 (ints .u8 (List.replicate 32 0)) ∧ Hd (Below w.heap.size w wr))
  case atStart =>
    refine ⟨0, List.replicate 32 0, by omega, rfl, hid rfl, hid ⟨rfl, bytesOk_zeros' 32⟩, ?_, ?_, hid ?_⟩
    · exact Blk.new' (w.alloc _) 23 (ints .u8 (List.replicate 32 0)) _ (by simp)
    · exact (Blk.new w 23 (ints .u8 (List.replicate 32 0))).alloc _
    · exact ((Below.refl _ _).alloc (Nat.le_refl _) _).alloc (by simp) _
  case round =>
    obtain ⟨i, xs, hi, rfl, hk, hl, h1, h0, hb⟩ := hrel
    by_cases hlt : i < 32
    · have hc := h1.cellI i (by have := hl.out.1; omega)
      have hf := h1.frozen i
      go_wp2
      go_roundg (gk - 1)
      case measure => have := hk.out; omega
      case rel =>
        refine ⟨i + 1, _, by omega, by go_num, hid ?_, hid ?_, h1.setI i _, h0.setOther (by simp) _, hid (hb.out.setCell (by simp) _)⟩
        · have := hk.out; omega
        · exact ⟨by simpa using hl.out.1, bytesOk_set hl.out.2 _ _ (by first | exact ⟨Int.emod_nonneg _ (by decide), Int.emod_lt_of_pos _ (by decide)⟩ | omega)⟩
    · have hl32 : (ints .u8 xs).length = 32 := by simpa using hl.out.1
      go_wp2_with (first
        | (refine load_blk rfl 23 _ rfl (w.heap.size + 1) rfl 23 _ h1 32 5 arr_key hl32 info_key ?_)
        | (refine store_blk rfl 23 _ _ rfl w.heap.size _ rfl rfl 23 _ h0 32 info_key hl32 (by simp) (ints_one _ _) ?_))
      refine bodyPost_ret (results_blk rfl _ _ w.heap.size 23 _ 32 5 rfl (h0.setRow _) arr_key hl32 info_key) rfl ?_
      exact ⟨xs, hl.out.1, hl.out.2, rfl, below_setRow hb.out (Nat.le_refl _) _⟩
end Go.Proofs.YtpmmmbilfblcpaaDoor
