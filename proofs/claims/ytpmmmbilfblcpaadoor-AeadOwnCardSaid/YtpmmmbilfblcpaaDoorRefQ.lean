/- The reference's turn, its quarter of a round. -/
import Derived.Test.YtpmmmbilfblcpaaDoorChaB
import Derived.Test.YtpmmmbilfblcpaaDoorArr
namespace Go.Proofs.YtpmmmbilfblcpaaDoor
open Go.RowKit Go.Cour
theorem bits_or_comm (k : IntKind) (x y : Int) : bits .or k x y = bits .or k y x := by
  unfold bits
  simp only [BitVec.or_comm]
theorem rot16_calls (x : Int) (w : World) (h : 0 ≤ x) (h' : x < 4294967296) :
    Calls Tryd.prog 66 #[.int .u32 x, .int .u64 16] w fun e w' => e = .returned (.int .u32 (rotl 16 x)) ∧ w' = w := by
  have hr : bits .or .u32 (x / 65536) (x * 65536 % 4294967296) = rotl 16 x := by rw [bits_or_comm]; rfl
  have hr := hid hr
  go_enter Tryd.func66, Tryd.ntmps66
  go_wp2
  go_ret
  exact ⟨by rw [← hr.out]; rfl, rfl⟩
theorem rot20_calls (x : Int) (w : World) (h : 0 ≤ x) (h' : x < 4294967296) :
    Calls Tryd.prog 66 #[.int .u32 x, .int .u64 20] w fun e w' => e = .returned (.int .u32 (rotl 12 x)) ∧ w' = w := by
  have hr : bits .or .u32 (x / 1048576) (x * 4096 % 4294967296) = rotl 12 x := by rw [bits_or_comm]; rfl
  have hr := hid hr
  go_enter Tryd.func66, Tryd.ntmps66
  go_wp2
  go_ret
  exact ⟨by rw [← hr.out]; rfl, rfl⟩
theorem rot24_calls (x : Int) (w : World) (h : 0 ≤ x) (h' : x < 4294967296) :
    Calls Tryd.prog 66 #[.int .u32 x, .int .u64 24] w fun e w' => e = .returned (.int .u32 (rotl 8 x)) ∧ w' = w := by
  have hr : bits .or .u32 (x / 16777216) (x * 256 % 4294967296) = rotl 8 x := by rw [bits_or_comm]; rfl
  have hr := hid hr
  go_enter Tryd.func66, Tryd.ntmps66
  go_wp2
  go_ret
  exact ⟨by rw [← hr.out]; rfl, rfl⟩
theorem rot25_calls (x : Int) (w : World) (h : 0 ≤ x) (h' : x < 4294967296) :
    Calls Tryd.prog 66 #[.int .u32 x, .int .u64 25] w fun e w' => e = .returned (.int .u32 (rotl 7 x)) ∧ w' = w := by
  have hr : bits .or .u32 (x / 33554432) (x * 128 % 4294967296) = rotl 7 x := by rw [bits_or_comm]; rfl
  have hr := hid hr
  go_enter Tryd.func66, Tryd.ntmps66
  go_wp2
  go_ret
  exact ⟨by rw [← hr.out]; rfl, rfl⟩
theorem zeroA16 : ((Tryd.prog.info? 65).bind (·.zero)).map (·.cells) = some (ints .u32 (List.replicate 16 0)).toArray := by kernel_rfl
set_option maxHeartbeats 4000000 in
set_option maxRecDepth 100000 in
theorem quarter1_calls (a b c d : Nat) (pa pb pc pd : Int) (xs : List Int) (w : World) (hx : xs.length = 16) (ha : a < 16) (hb : b < 16) (hc : c < 16) (hd : d < 16) (hw : words xs) (ea : pa = a) (eb : pb = b) (ec : pc = c) (ed : pd = d) :
    Calls Tryd.prog 60 #[.agg (ints .u32 xs).toArray, .int .i64 pa, .int .i64 pb, .int .i64 pc, .int .i64 pd] w fun e w' => e = .returned (.agg (ints .u32 (quarter xs a b c d)).toArray) ∧ Below w.heap.size w w' := by
  subst ea eb ec ed
  have ia : (a : Int) < 16 := by omega
  have ib : (b : Int) < 16 := by omega
  have ic : (c : Int) < 16 := by omega
  have id : (d : Int) < 16 := by omega
  obtain ⟨x0, HX⟩ : ∃ x, Hd (x = xs) := ⟨xs, hid rfl⟩
  have HL : Hd (x0.length = 16) := hid (by rw [HX.out]; exact hx)
  have HW : Hd (words x0) := hid (by rw [HX.out]; exact hw)
  clear hx hw
  rw [show ints .u32 xs = ints .u32 x0 by rw [HX.out]]
  go_enter Tryd.func60, Tryd.ntmps60
  go_wp2_with (first
    | (refine box_blk rfl 65 _ rfl _ rfl (ints .u32 x0) rfl ?_; intro g v1 hgz hb1 hB1 hs1)
    | (refine alloc_blk rfl 65 rfl _ rfl (ints .u32 (List.replicate 16 0)) zeroA16 ?_; intro g10 w0 hg10 hb10 hB2 hs2)
    | fail)
  have hg := hb1.belowAll hB2
  have hgne : Hd (g10 ≠ g) := hid (by have := hb1.lt; omega)
  have hgw : Hd (w.heap.size ≤ g ∧ w.heap.size ≤ g10) := hid (by have := hB1.size; omega)
  have hBel := below_then hB1 hB1.size hB2
  have HO : Only g w0 w0 := Only.refl g w0
  obtain ⟨wb, HE⟩ : ∃ v, Hd (v = w0) := ⟨w0, hid rfl⟩
  replace hb10 : Blk wb g10 65 (ints .u32 (List.replicate 16 0)) := by rw [HE.out]; exact hb10
  replace hBel : Below w.heap.size w wb := by rw [HE.out]; exact hBel
  replace HO : Only g wb w0 := by rw [HE.out]; exact HO
  clear HE hb1 hB1 hB2 hgz hg10 hs1 hs2
  -- region 0
  have cx := hg.cellI a (by have := HL.out; omega)
  have cy := hg.cellI b (by have := HL.out; omega)
  have fx := hg.frozen a
  refine wp_region_still_tail 9 (by kernel_rfl) (by kernel_rfl) ?_
  simp only [List.take_succ_cons, List.take_zero, List.drop_succ_cons, List.drop_zero]
  change wpStill _ _ (World.drew _) (fun a' => wpList _ _ _ _ a' (World.drew _)) _ _
  repeat still_step
  refine wpStill_nil ?_
  change wpList _ _ _ _ _ _
  go_wp2_with fail
  replace hg : Blk _ g 65 (ints .u32 (qadd x0 a b)) := (hg.setI a ((rd x0 a + rd x0 b) % 4294967296)).drew
  replace HO := (HO.setCell a (.int .u32 ((rd x0 a + rd x0 b) % 4294967296))).drew
  replace HW : Hd (words (qadd x0 a b)) := hid (words_qadd HW.out _ _)
  replace HL : Hd ((qadd x0 a b).length = 16) := hid (by have := HL.out; simpa using this)
  replace HX : Hd (qadd x0 a b = qadd xs a b) := hid (by rw [HX.out])
  clear cx cy fx
  generalize (w0.setCell { block := g, off := a } (.int .u32 ((rd x0 a + rd x0 b) % 4294967296))).drew = w1 at hg HO ⊢
  generalize hx1 : qadd x0 a b = x1 at hg HW HL HX
  clear hx1
  -- region 1
  have cx := hg.cellI d (by have := HL.out; omega)
  have cy := hg.cellI a (by have := HL.out; omega)
  have fx := hg.frozen d
  refine wp_region_still_tail 10 (by kernel_rfl) (by kernel_rfl) ?_
  simp only [List.take_succ_cons, List.take_zero, List.drop_succ_cons, List.drop_zero]
  change wpStill _ _ (World.drew _) (fun a' => wpList _ _ _ _ a' (World.drew _)) _ _
  repeat still_step
  still_call (rot16_calls _ _ (bits_u32_bound _ _ _).1 (bits_u32_bound _ _ _).2)
  repeat still_step
  refine wpStill_nil ?_
  change wpList _ _ _ _ _ _
  go_wp2_with fail
  replace hg : Blk _ g 65 (ints .u32 (qxor 16 x1 d a)) := (hg.setI d (rotl 16 (bits .xor .u32 (rd x1 d) (rd x1 a)))).drew
  replace HO := (HO.setCell d (.int .u32 (rotl 16 (bits .xor .u32 (rd x1 d) (rd x1 a))))).drew
  replace HW : Hd (words (qxor 16 x1 d a)) := hid (words_qxor HW.out _ _ _)
  replace HL : Hd ((qxor 16 x1 d a).length = 16) := hid (by have := HL.out; simpa using this)
  replace HX : Hd (qxor 16 x1 d a = qxor 16 (qadd xs a b) d a) := hid (by rw [HX.out])
  clear cx cy fx
  generalize (w1.setCell { block := g, off := d } (.int .u32 (rotl 16 (bits .xor .u32 (rd x1 d) (rd x1 a))))).drew = w2 at hg HO ⊢
  generalize hx1 : qxor 16 x1 d a = x2 at hg HW HL HX
  clear hx1
  -- region 2
  have cx := hg.cellI c (by have := HL.out; omega)
  have cy := hg.cellI d (by have := HL.out; omega)
  have fx := hg.frozen c
  refine wp_region_still_tail 9 (by kernel_rfl) (by kernel_rfl) ?_
  simp only [List.take_succ_cons, List.take_zero, List.drop_succ_cons, List.drop_zero]
  change wpStill _ _ (World.drew _) (fun a' => wpList _ _ _ _ a' (World.drew _)) _ _
  repeat still_step
  refine wpStill_nil ?_
  change wpList _ _ _ _ _ _
  go_wp2_with fail
  replace hg : Blk _ g 65 (ints .u32 (qadd x2 c d)) := (hg.setI c ((rd x2 c + rd x2 d) % 4294967296)).drew
  replace HO := (HO.setCell c (.int .u32 ((rd x2 c + rd x2 d) % 4294967296))).drew
  replace HW : Hd (words (qadd x2 c d)) := hid (words_qadd HW.out _ _)
  replace HL : Hd ((qadd x2 c d).length = 16) := hid (by have := HL.out; simpa using this)
  replace HX : Hd (qadd x2 c d = qadd (qxor 16 (qadd xs a b) d a) c d) := hid (by rw [HX.out])
  clear cx cy fx
  generalize (w2.setCell { block := g, off := c } (.int .u32 ((rd x2 c + rd x2 d) % 4294967296))).drew = w3 at hg HO ⊢
  generalize hx1 : qadd x2 c d = x3 at hg HW HL HX
  clear hx1
  -- region 3
  have cx := hg.cellI b (by have := HL.out; omega)
  have cy := hg.cellI c (by have := HL.out; omega)
  have fx := hg.frozen b
  refine wp_region_still_tail 10 (by kernel_rfl) (by kernel_rfl) ?_
  simp only [List.take_succ_cons, List.take_zero, List.drop_succ_cons, List.drop_zero]
  change wpStill _ _ (World.drew _) (fun a' => wpList _ _ _ _ a' (World.drew _)) _ _
  repeat still_step
  still_call (rot20_calls _ _ (bits_u32_bound _ _ _).1 (bits_u32_bound _ _ _).2)
  repeat still_step
  refine wpStill_nil ?_
  change wpList _ _ _ _ _ _
  go_wp2_with fail
  replace hg : Blk _ g 65 (ints .u32 (qxor 12 x3 b c)) := (hg.setI b (rotl 12 (bits .xor .u32 (rd x3 b) (rd x3 c)))).drew
  replace HO := (HO.setCell b (.int .u32 (rotl 12 (bits .xor .u32 (rd x3 b) (rd x3 c))))).drew
  replace HW : Hd (words (qxor 12 x3 b c)) := hid (words_qxor HW.out _ _ _)
  replace HL : Hd ((qxor 12 x3 b c).length = 16) := hid (by have := HL.out; simpa using this)
  replace HX : Hd (qxor 12 x3 b c = qxor 12 (qadd (qxor 16 (qadd xs a b) d a) c d) b c) := hid (by rw [HX.out])
  clear cx cy fx
  generalize (w3.setCell { block := g, off := b } (.int .u32 (rotl 12 (bits .xor .u32 (rd x3 b) (rd x3 c))))).drew = w4 at hg HO ⊢
  generalize hx1 : qxor 12 x3 b c = x4 at hg HW HL HX
  clear hx1
  -- region 4
  have cx := hg.cellI a (by have := HL.out; omega)
  have cy := hg.cellI b (by have := HL.out; omega)
  have fx := hg.frozen a
  refine wp_region_still_tail 9 (by kernel_rfl) (by kernel_rfl) ?_
  simp only [List.take_succ_cons, List.take_zero, List.drop_succ_cons, List.drop_zero]
  change wpStill _ _ (World.drew _) (fun a' => wpList _ _ _ _ a' (World.drew _)) _ _
  repeat still_step
  refine wpStill_nil ?_
  change wpList _ _ _ _ _ _
  go_wp2_with fail
  replace hg : Blk _ g 65 (ints .u32 (qadd x4 a b)) := (hg.setI a ((rd x4 a + rd x4 b) % 4294967296)).drew
  replace HO := (HO.setCell a (.int .u32 ((rd x4 a + rd x4 b) % 4294967296))).drew
  replace HW : Hd (words (qadd x4 a b)) := hid (words_qadd HW.out _ _)
  replace HL : Hd ((qadd x4 a b).length = 16) := hid (by have := HL.out; simpa using this)
  replace HX : Hd (qadd x4 a b = qadd (qxor 12 (qadd (qxor 16 (qadd xs a b) d a) c d) b c) a b) := hid (by rw [HX.out])
  clear cx cy fx
  generalize (w4.setCell { block := g, off := a } (.int .u32 ((rd x4 a + rd x4 b) % 4294967296))).drew = w5 at hg HO ⊢
  generalize hx1 : qadd x4 a b = x5 at hg HW HL HX
  clear hx1
  -- region 5
  have cx := hg.cellI d (by have := HL.out; omega)
  have cy := hg.cellI a (by have := HL.out; omega)
  have fx := hg.frozen d
  refine wp_region_still_tail 10 (by kernel_rfl) (by kernel_rfl) ?_
  simp only [List.take_succ_cons, List.take_zero, List.drop_succ_cons, List.drop_zero]
  change wpStill _ _ (World.drew _) (fun a' => wpList _ _ _ _ a' (World.drew _)) _ _
  repeat still_step
  still_call (rot24_calls _ _ (bits_u32_bound _ _ _).1 (bits_u32_bound _ _ _).2)
  repeat still_step
  refine wpStill_nil ?_
  change wpList _ _ _ _ _ _
  go_wp2_with fail
  replace hg : Blk _ g 65 (ints .u32 (qxor 8 x5 d a)) := (hg.setI d (rotl 8 (bits .xor .u32 (rd x5 d) (rd x5 a)))).drew
  replace HO := (HO.setCell d (.int .u32 (rotl 8 (bits .xor .u32 (rd x5 d) (rd x5 a))))).drew
  replace HW : Hd (words (qxor 8 x5 d a)) := hid (words_qxor HW.out _ _ _)
  replace HL : Hd ((qxor 8 x5 d a).length = 16) := hid (by have := HL.out; simpa using this)
  replace HX : Hd (qxor 8 x5 d a = qxor 8 (qadd (qxor 12 (qadd (qxor 16 (qadd xs a b) d a) c d) b c) a b) d a) := hid (by rw [HX.out])
  clear cx cy fx
  generalize (w5.setCell { block := g, off := d } (.int .u32 (rotl 8 (bits .xor .u32 (rd x5 d) (rd x5 a))))).drew = w6 at hg HO ⊢
  generalize hx1 : qxor 8 x5 d a = x6 at hg HW HL HX
  clear hx1
  -- region 6
  have cx := hg.cellI c (by have := HL.out; omega)
  have cy := hg.cellI d (by have := HL.out; omega)
  have fx := hg.frozen c
  refine wp_region_still_tail 9 (by kernel_rfl) (by kernel_rfl) ?_
  simp only [List.take_succ_cons, List.take_zero, List.drop_succ_cons, List.drop_zero]
  change wpStill _ _ (World.drew _) (fun a' => wpList _ _ _ _ a' (World.drew _)) _ _
  repeat still_step
  refine wpStill_nil ?_
  change wpList _ _ _ _ _ _
  go_wp2_with fail
  replace hg : Blk _ g 65 (ints .u32 (qadd x6 c d)) := (hg.setI c ((rd x6 c + rd x6 d) % 4294967296)).drew
  replace HO := (HO.setCell c (.int .u32 ((rd x6 c + rd x6 d) % 4294967296))).drew
  replace HW : Hd (words (qadd x6 c d)) := hid (words_qadd HW.out _ _)
  replace HL : Hd ((qadd x6 c d).length = 16) := hid (by have := HL.out; simpa using this)
  replace HX : Hd (qadd x6 c d = qadd (qxor 8 (qadd (qxor 12 (qadd (qxor 16 (qadd xs a b) d a) c d) b c) a b) d a) c d) := hid (by rw [HX.out])
  clear cx cy fx
  generalize (w6.setCell { block := g, off := c } (.int .u32 ((rd x6 c + rd x6 d) % 4294967296))).drew = w7 at hg HO ⊢
  generalize hx1 : qadd x6 c d = x7 at hg HW HL HX
  clear hx1
  -- region 7
  have cx := hg.cellI b (by have := HL.out; omega)
  have cy := hg.cellI c (by have := HL.out; omega)
  have fx := hg.frozen b
  refine wp_region_still_tail 10 (by kernel_rfl) (by kernel_rfl) ?_
  simp only [List.take_succ_cons, List.take_zero, List.drop_succ_cons, List.drop_zero]
  change wpStill _ _ (World.drew _) (fun a' => wpList _ _ _ _ a' (World.drew _)) _ _
  repeat still_step
  still_call (rot25_calls _ _ (bits_u32_bound _ _ _).1 (bits_u32_bound _ _ _).2)
  repeat still_step
  refine wpStill_nil ?_
  change wpList _ _ _ _ _ _
  have hgL : Blk _ g 65 (ints .u32 (qxor 7 x7 b c)) := (hg.setI b (rotl 7 (bits .xor .u32 (rd x7 b) (rd x7 c)))).drew
  have hbL := hb10.only ((HO.setCell b (.int .u32 (rotl 7 (bits .xor .u32 (rd x7 b) (rd x7 c))))).drew) hgne.out
  have hlL : (ints .u32 (qxor 7 x7 b c)).length = 16 := by have := HL.out; simpa using this
  go_wp2_with (first
    | (refine load_blk rfl 65 _ rfl g rfl 65 _ hgL 16 43 arr65 hlL info65 ?_)
    | (refine store_blk rfl 65 _ _ rfl g10 (ints .u32 (qxor 7 x7 b c)) rfl rfl 65 _ hbL 16 info65 hlL (by simp [ints]) (ints_one _ _) ?_)
    | fail)
  clear hgL hbL hlL
  replace hg : Blk _ g 65 (ints .u32 (qxor 7 x7 b c)) := (hg.setI b (rotl 7 (bits .xor .u32 (rd x7 b) (rd x7 c)))).drew
  replace HO := (HO.setCell b (.int .u32 (rotl 7 (bits .xor .u32 (rd x7 b) (rd x7 c))))).drew
  replace HW : Hd (words (qxor 7 x7 b c)) := hid (words_qxor HW.out _ _ _)
  replace HL : Hd ((qxor 7 x7 b c).length = 16) := hid (by have := HL.out; simpa using this)
  replace HX : Hd (qxor 7 x7 b c = qxor 7 (qadd (qxor 8 (qadd (qxor 12 (qadd (qxor 16 (qadd xs a b) d a) c d) b c) a b) d a) c d) b c) := hid (by rw [HX.out])
  clear cx cy fx
  generalize (w7.setCell { block := g, off := b } (.int .u32 (rotl 7 (bits .xor .u32 (rd x7 b) (rd x7 c))))).drew = w8 at hg HO ⊢
  generalize hx1 : qxor 7 x7 b c = x8 at hg HW HL HX
  clear hx1
  have hb10e := hb10.only HO hgne.out
  have hl8 : (ints .u32 x8).length = 16 := by simpa using HL.out
  refine bodyPost_ret (results_blk rfl _ _ g10 65 _ 16 43 rfl (hb10e.setRow (ints .u32 x8)) arr65 hl8 info65) rfl ?_
  exact ⟨by rw [show quarter xs a b c d = x8 from HX.out.symm], below_setRow (hBel.trans ⟨HO.os, HO.tape, HO.output, by rw [HO.size]; exact Nat.le_refl _, fun k hk => HO.block k (by have := hgw.out; omega)⟩) hgw.out.2 _⟩
end Go.Proofs.YtpmmmbilfblcpaaDoor
