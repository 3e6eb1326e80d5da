/- stream.nonce. -/
import Derived.Test.YtpmmmbilfblcpaaDoorStrA
import Derived.Test.YtpmmmbilfblcpaaDoorArr
namespace Go.Proofs.YtpmmmbilfblcpaaDoor
open Go.RowKit Go.Cour
/-- A chunk's nonce. -/
def nonceOf (i : Int) (last : Bool) : List Int := [0, 0, 0, 0, 0, 0, 0, i / 16777216, i / 65536 % 256, i / 256 % 256, i % 256, if last then 1 else 0]
theorem nonceOf_length (i : Int) (last : Bool) : (nonceOf i last).length = 12 := rfl
theorem infoN12 : (Tryd.prog.info? 24).map (·.size) = some 12 := by kernel_rfl
theorem undN12 : Tryd.prog.underlying 24 = some (.array 12 5) := by kernel_rfl
theorem zeroN12 : ((Tryd.prog.info? 24).bind (·.zero)).map (·.cells) = some (ints .u8 (List.replicate 12 0)).toArray := by kernel_rfl
set_option maxHeartbeats 400000 in
set_option maxRecDepth 100000 in
theorem nonce_calls (i : Int) (last : Bool) (w : World) (hi : 0 ≤ i ∧ i < 4294967296) :
    Calls Tryd.prog 49 #[.int .u32 i, .bool last] w fun e w' => e = .returned (.agg (ints .u8 (nonceOf i last)).toArray) ∧ Below w.heap.size w w' := by
  cases last
  · go_enter Tryd.func49, Tryd.ntmps49
    go_wp2_with (first
    | (refine store_blk rfl 24 _ _ rfl g1 (ints .u8 [0, 0, 0, 0, 0, 0, 0, i / 16777216, i / 65536 % 256, i / 256 % 256, i % 256, 0]) rfl rfl 24 _ hb1'' 12 infoN12 (by simp [ints]) (by simp [ints]) (ints_one _ _) ?_)
    | (refine load_blk rfl 24 _ rfl g2 rfl 24 _ hb4 12 5 undN12 (by simp [ints]) infoN12 ?_)
    | (refine store_blk rfl 24 _ _ rfl g2 (ints .u8 [0, 0, 0, 0, 0, 0, 0, i / 16777216, i / 65536 % 256, i / 256 % 256, i % 256, 0]) rfl rfl 24 _ hb2 12 infoN12 (by simp [ints]) (by simp [ints]) (ints_one _ _) ?_
       have hb3 := hb2.setRow (ints .u8 [0, 0, 0, 0, 0, 0, 0, i / 16777216, i / 65536 % 256, i / 256 % 256, i % 256, 0])
       have hb1' := (hb1.belowAll hB2).setRowOther (g' := g2) (by have := hb1.lt; omega) (ints .u8 [0, 0, 0, 0, 0, 0, 0, i / 16777216, i / 65536 % 256, i / 256 % 256, i % 256, 0]).toArray
       have hB3 := below_setRow (below_then hB1 hB1.size hB2) (g := g2) (by have := hB1.size; omega) (ints .u8 [0, 0, 0, 0, 0, 0, 0, i / 16777216, i / 65536 % 256, i / 256 % 256, i % 256, 0]).toArray
       generalize World.setRow w2 _ _ = w3 at *
       have hb4 := hb3
       have hb1'' := hb1'
       have hB4 := hB3)
    | (have hx := hb1; refine alloc_blk rfl 24 rfl _ rfl (ints .u8 (List.replicate 12 0)) zeroN12 ?_; clear hx; intro g2 w2 hg2 hb2 hB2 hs2)
    | (refine alloc_blk rfl 24 rfl _ rfl (ints .u8 (List.replicate 12 0)) zeroN12 ?_; intro g1 w1 hg1 hb1 hB1 hs1)
    | fail)
    refine bodyPost_ret (results_blk rfl _ _ g1 24 _ 12 5 rfl (hb1''.setRow (ints .u8 [0, 0, 0, 0, 0, 0, 0, i / 16777216, i / 65536 % 256, i / 256 % 256, i % 256, 0])) undN12 (by simp [ints]) infoN12) rfl ?_
    exact ⟨rfl, below_setRow hB4 (by omega) _⟩
  · go_enter Tryd.func49, Tryd.ntmps49
    go_wp2_with (first
    | (refine store_blk rfl 24 _ _ rfl g1 (ints .u8 [0, 0, 0, 0, 0, 0, 0, i / 16777216, i / 65536 % 256, i / 256 % 256, i % 256, 1]) rfl rfl 24 _ hb1'' 12 infoN12 (by simp [ints]) (by simp [ints]) (ints_one _ _) ?_)
    | (refine load_blk rfl 24 _ rfl g2 rfl 24 _ hb4 12 5 undN12 (by simp [ints]) infoN12 ?_)
    | (refine store_blk rfl 24 _ _ rfl g2 (ints .u8 [0, 0, 0, 0, 0, 0, 0, i / 16777216, i / 65536 % 256, i / 256 % 256, i % 256, 0]) rfl rfl 24 _ hb2 12 infoN12 (by simp [ints]) (by simp [ints]) (ints_one _ _) ?_
       have hb3 := hb2.setRow (ints .u8 [0, 0, 0, 0, 0, 0, 0, i / 16777216, i / 65536 % 256, i / 256 % 256, i % 256, 0])
       have hb1' := (hb1.belowAll hB2).setRowOther (g' := g2) (by have := hb1.lt; omega) (ints .u8 [0, 0, 0, 0, 0, 0, 0, i / 16777216, i / 65536 % 256, i / 256 % 256, i % 256, 0]).toArray
       have hB3 := below_setRow (below_then hB1 hB1.size hB2) (g := g2) (by have := hB1.size; omega) (ints .u8 [0, 0, 0, 0, 0, 0, 0, i / 16777216, i / 65536 % 256, i / 256 % 256, i % 256, 0]).toArray
       generalize World.setRow w2 _ _ = w3 at *
       have fx := hb3.frozen 11
       have cx := hb3.cellI 11 (by simp)
       have hb4 : Blk (w3.setCell ⟨g2, 11, none⟩ (.int .u8 1)) g2 24 (ints .u8 [0, 0, 0, 0, 0, 0, 0, i / 16777216, i / 65536 % 256, i / 256 % 256, i % 256, 1]) := hb3.setI 11 1
       have hb1'' : Blk (w3.setCell ⟨g2, 11, none⟩ (.int .u8 1)) g1 24 (ints .u8 (List.replicate 12 0)) := hb1'.setOther (by have := hb1.lt; simp; omega) _
       have hB4 : Below w.heap.size w (w3.setCell ⟨g2, 11, none⟩ (.int .u8 1)) := hB3.setCell (by have := hB1.size; simp; omega) _)
    | (have hx := hb1; refine alloc_blk rfl 24 rfl _ rfl (ints .u8 (List.replicate 12 0)) zeroN12 ?_; clear hx; intro g2 w2 hg2 hb2 hB2 hs2)
    | (refine alloc_blk rfl 24 rfl _ rfl (ints .u8 (List.replicate 12 0)) zeroN12 ?_; intro g1 w1 hg1 hb1 hB1 hs1)
    | fail)
    refine bodyPost_ret (results_blk rfl _ _ g1 24 _ 12 5 rfl (hb1''.setRow (ints .u8 [0, 0, 0, 0, 0, 0, 0, i / 16777216, i / 65536 % 256, i / 256 % 256, i % 256, 1])) undN12 (by simp [ints]) infoN12) rfl ?_
    exact ⟨rfl, below_setRow hB4 (by omega) _⟩
end Go.Proofs.YtpmmmbilfblcpaaDoor
