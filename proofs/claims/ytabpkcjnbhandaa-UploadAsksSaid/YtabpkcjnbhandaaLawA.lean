/- The law UploadAsks. -/
import Derived.Test.YtabpkcjnbhandaaAsk
import Derived.Test.YtabpkcjnbhandaaArr
import Derived.Test.YtabpkcjnbhandaaNum
import Derived.Test.YtabpkcjnbhandaaSame
import Derived.Test.YtabpkcjnbhandaaKey
namespace Go.Proofs.Ytabpkcjnbhandaa
open Go.RowKit Go.Cour
attribute [local go_sem] max2_int min2_int
theorem zeroUp : ((Try.prog.info? 30).bind (·.zero)).map (·.cells) = some (ints .i64 [0, 0, 0, 0]).toArray := by kernel_rfl
def id1 : List Int := 1 :: List.replicate 31 0
theorem builtHash1 : Try.prog.built 32 [(0, .int .u8 1)] = some (ints .u8 id1).toArray := by kernel_rfl
theorem undU8 : Try.prog.underlying 5 = some (.int .u8) := by kernel_rfl
theorem sizeU8 : (Try.prog.info? 5).map (·.size) = some 1 := by kernel_rfl
theorem req0 (op : Int) (ids : List Int) (off n : Int) (v : Value) : (reqCells op ids off n v)[0]? = some (.int .i64 op) := rfl
theorem reqIds (op : Int) (ids : List Int) (off n : Int) (v : Value) (h : ids.length = 32) (j : Nat) (x : Value) (hj : (ints .u8 ids)[j]? = some x) : (reqCells op ids off n v)[1 + j]? = some x := by
  have hlt : j < 32 := by
    have := (List.getElem?_eq_some_iff.1 hj).1
    simpa [ints, h] using this
  rw [Nat.add_comm, reqCells, List.getElem?_cons_succ, List.getElem?_append_left (by simp [ints, h]; omega)]
  exact hj
set_option maxHeartbeats 2000000 in
set_option maxRecDepth 100000 in
theorem first_calls (w : World) : Calls Try.prog 4 #[] w fun e w' => e = .returned (.bool true) ∧ Below w.heap.size w w' := by
  have hE := fun w => run_equalIn_ints (P := Try.prog) w 9998 32 5 32 .u8 arrHash undU8 sizeU8 id1 id1 rfl rfl
  rw [show 9998 + 2 = 10000 from rfl] at hE
  have hk1 : id1.length = 32 := rfl
  go_enter Try.func4, Try.ntmps4
  go_wp2_with (first
    | (refine alloc_blk rfl 30 rfl _ rfl (ints .i64 [0, 0, 0, 0]) zeroUp ?_; intro g1 w1 hg1 hb1 hB1 hs1)
    | (refine build_to rfl 32 _ rfl (ints .u8 id1).toArray (by rw [Array.toList_map]; exact builtHash1) ?_)
    | (refine literal_blk rfl 24 5 1 _ rfl _ rfl .u8 [5] (by kernel_rfl) (by kernel_rfl) (by kernel_rfl) rfl (by decide) (by decide) rfl ?_; intro g5 w2 hg5 hb5 hB5 hs5)
    | (go_at_call 8; refine (ask_yes g1 1 1 (some ⟨g5, 0, none⟩) 0 0 0 id1 [5] w2 rfl (hb1.belowAll hB5) (by decide) rfl (by decide) (by intro h; cases h) (Rd.ofBlk hb5) (by decide) (by decide)).mono ?_
       rintro e w3 ⟨off, n, v, rfl, hB3, hsd, hv, _⟩
       obtain rfl := hv (by decide)
       obtain rfl := hsd.noLen (by decide)
       obtain rfl := hsd.noAt (by decide))
    | (refine alloc_blk rfl 37 rfl _ rfl noReq zeroReq ?_; intro g2 w4 hg2 hb2 hB4 hs4)
    | (refine store_blk rfl 37 _ _ rfl g2 (reqCells (opOf 0) id1 0 0 noSl) rfl rfl 37 _ hb2 36 infoReq (reqCells_len _ _ _ _ _ rfl) (reqCells_len _ _ _ _ _ (by simp)) (reqCells_one _ _ _ _ _ rfl) ?_
       have hbr := hb2.setRow (reqCells (opOf 0) id1 0 0 noSl)
       have hc0 := hbr.cell 0
       simp only [req0] at hc0
       generalize hW : w4.setRow g2 (reqCells (opOf 0) id1 0 0 noSl).toArray = w5 at *)
    | (refine load_in rfl 32 _ rfl g2 1 rfl (ints .u8 id1) (fun j v hv => by rw [hbr.cell]; exact reqIds _ _ _ _ _ rfl j v hv) 32 5 arrHash rfl infoHash ?_)
    | fail)
  go_ret
  refine ⟨by simp, ?_⟩
  subst hW
  have h3 := hB3.size
  exact below_setRow (below_then (below_then (below_then hB1 (by omega) hB5) (by omega) hB3) (by omega) hB4) (by omega) _
/-- Behind the beginning: the upload, its blob, its id. -/
theorem builtUp (p a : Int) : Try.prog.built 30 [(0, .int .i64 p), (1, .int .i64 a)] = some (ints .i64 [p, a, 0, 0]).toArray := by kernel_rfl
theorem zeroHash : ((Try.prog.info? 32).bind (·.zero)).map (·.cells) = some (ints .u8 (List.replicate 32 0)).toArray := by kernel_rfl
theorem mod_nat (a b : Int) (hb : 0 < b) : ∃ n : Nat, a % b = n ∧ (n : Int) < b := ⟨(a % b).toNat, by have := Int.emod_nonneg a (show b ≠ 0 by omega); omega, by have := Int.emod_nonneg a (show b ≠ 0 by omega); have := Int.emod_lt_of_pos a hb; omega⟩
set_option maxHeartbeats 600000 in
set_option maxRecDepth 100000 in
theorem law_a (p a s t : Int) (w : World) (hx : p % 6 = 5 ∨ 0 < t % 3) : Calls Try.prog 3 #[.int .i64 p, .int .i64 a, .int .i64 s, .int .i64 t] w fun e w' => e = .returned (.bool true) ∧ Below w.heap.size w w' := by
  obtain ⟨n, hn, hnl⟩ := mod_nat s 600 (by decide)
  obtain ⟨ph, hp, hpl⟩ := mod_nat p 6 (by decide)
  obtain ⟨at', hat, hatl⟩ := mod_nat a (n + 5) (by omega)
  obtain ⟨wt, hw, hwl⟩ := mod_nat t 3 (by decide)
  have hadd : IntKind.i64.wrap ((n : Int) + 5) = n + 5 := by rw [IntKind.wrap_i64]; omega
  rw [hp, hw] at hx
  have hcs : (((ph : Int) == 5) = true) ∨ ((((ph : Int) == 5) = false) ∧ (decide ((0 : Int) < wt) = true) ∧ (decide (0 < wt) = true)) := by
    by_cases h5 : (ph : Int) = 5
    · exact .inl (by simp [h5])
    · exact .inr ⟨by rw [beq_eq_false_iff_ne]; exact h5, by simp; omega, by simp; omega⟩
  have hx' : 5 ≤ (ph : Int) ∨ (wt : Int) ≠ 0 := by omega
  obtain ⟨fs, hfs⟩ := underReq
  rcases hcs with e5 | ⟨e5, d54, d54'⟩
  all_goals
   go_enter Try.func3, Try.ntmps3
   go_wp2_with (first
    | (go_at_call 4; refine (first_calls w).mono ?_; rintro e w1 ⟨rfl, hB1⟩)
    | (go_at_call 5; refine (number_calls _ _ _ (by omega) (by omega)).mono ?_; rintro e wn1 ⟨rfl, rfl⟩; simp only [hn, hp, hat, hw])
    | (go_at_call 6; refine (file_calls n n _ (by omega)).mono ?_; rintro e w2 ⟨vb, rfl, ho2, hB2⟩
       obtain ⟨A, c, hvb, hlc, hA, hrd2⟩ := ho2.parts
       obtain ⟨zs, hzs, hzl⟩ : ∃ zs, Hd (zs = fileTo n n) ∧ Hd (zs.length = n) := ⟨_, ⟨rfl⟩, ⟨fileTo_length _ _⟩⟩
       rw [← hzs.out] at hvb hlc hrd2 ho2
       subst hvb)
    | (refine build_to rfl 30 _ rfl (ints .i64 [ph, at', 0, 0]).toArray (by rw [Array.toList_map]; exact builtUp _ _) ?_)
    | (refine box_blk rfl 30 _ rfl _ rfl (ints .i64 [ph, at', 0, 0]) rfl ?_; intro g1 w3 hg1 hb1 hB3 hs3
       have k3 := hb1.cell 3
       have f3 := hb1.frozen 3
       simp only [ints, List.map_cons, List.map_nil, List.getElem?_cons_succ, List.getElem?_cons_zero] at k3)
    | (go_at_call 7; refine (key_calls n _).mono ?_; rintro e w4 ⟨ids, hil, rfl, hB4⟩
       have hb1k := (hb1.set 3 (.int .i64 wt)).belowAll hB4
       have hb1' : Blk w4 g1 30 (ints .i64 [ph, at', 0, wt]) := hb1k)
    | (refine alloc_blk rfl 32 rfl _ rfl (ints .u8 (List.replicate 32 0)) zeroHash ?_; intro g12 w5 hg12 hb12 hB5 hs5)
    | (refine store_blk rfl 32 _ _ rfl g12 (ints .u8 ids) rfl rfl 32 _ hb12 32 infoHash (by simp [ints, hil]) (by simp [ints]) (ints_one _ _) ?_
       have hi12 := hb12.setRow (ints .u8 ids)
       have hu6 := (hb1'.belowAll hB5).setRowOther (g' := g12) (by have := hb1'.lt; omega) (ints .u8 ids).toArray
       have hbw6 := below_setRow (g := g12) hB5 (by omega) (ints .u8 ids).toArray
       generalize hW6 : w5.setRow g12 (ints .u8 ids).toArray = w6 at *)
    | (refine load_blk rfl 32 _ rfl g12 rfl 32 _ hi12 32 5 arrHash (by simp [ints, hil]) infoHash ?_)
    | (go_at_call 8; refine (ask_not g1 c _ A ph at' 0 wt ids w6 hil hu6 hx' (by omega)).mono ?_; rintro e w7 ⟨rfl, hB7⟩)
    | (refine alloc_blk rfl 37 rfl _ rfl noReq zeroReq ?_; intro g13 w8 hg13 hb13 hB8 hs8)
    | (refine store_blk rfl 37 _ _ rfl g13 noReq rfl rfl 37 _ hb13 36 infoReq (reqCells_len _ _ _ _ _ (by simp)) (reqCells_len _ _ _ _ _ (by simp)) (reqCells_one _ _ _ _ _ rfl) ?_
       have hbr := hb13.setRow noReq
       have hc0 : (w8.setRow g13 noReq.toArray).cell? ⟨g13, 0, none⟩ = some (.int .i64 0) := hbr.cell 0
       have hg1g : g1 ≠ g13 := by have h1 := (hu6.belowAll hB7).lt; omega
       have cu0 := (((hu6.belowAll hB7).belowAll hB8).setRowOther hg1g noReq.toArray).cell 0
       simp only [ints, List.map_cons, List.map_nil, List.getElem?_cons_zero] at cu0
       have hbw9 := below_setRow (g := g13) hB8 (by omega) noReq.toArray
       generalize w8.setRow g13 noReq.toArray = w9 at *)
    | fail)
   go_ret
   refine ⟨by simp, ?_⟩
   have z1 := hB1.size
   have z2 := hB2.size
   have z4 := hB4.size
   have z7 := hB7.size
   have z6 := hbw6.size
   simp at z4
   have c3 := below_then (below_then hB1 z1 hB2) (by omega) hB3
   have c4 := below_then (c3.setCell (p := ⟨g1, 3, none⟩) (by show w.heap.size ≤ g1; omega) (.int .i64 wt)) (by simp; omega) hB4
   exact below_then (below_then (below_then c4 (by omega) hbw6) (by omega) hB7) (by omega) hbw9
set_option maxHeartbeats 2000000 in
set_option maxRecDepth 100000 in
theorem law_b (p a s t : Int) (w : World) (hx5 : p % 6 ≠ 5) (hw : t % 3 = 0) : Calls Try.prog 3 #[.int .i64 p, .int .i64 a, .int .i64 s, .int .i64 t] w fun e w' => e = .returned (.bool true) ∧ Below w.heap.size w w' := by
  obtain ⟨n, hn, hnl⟩ := mod_nat s 600 (by decide)
  obtain ⟨ph, hp, hpl⟩ := mod_nat p 6 (by decide)
  obtain ⟨at', hat, hatl⟩ := mod_nat a (n + 5) (by omega)
  have hadd : IntKind.i64.wrap ((n : Int) + 5) = n + 5 := by rw [IntKind.wrap_i64]; omega
  have hph : ph < 5 := by rw [hp] at hx5; omega
  have e5 : (((ph : Int) == 5) = false) := by rw [beq_eq_false_iff_ne]; omega
  obtain ⟨fs, hfs⟩ := underReq
  go_enter Try.func3, Try.ntmps3
  go_wp2_with (first
    | (go_at_call 4; refine (first_calls w).mono ?_; rintro e w1 ⟨rfl, hB1⟩)
    | (go_at_call 5; refine (number_calls _ _ _ (by omega) (by omega)).mono ?_; rintro e wn1 ⟨rfl, rfl⟩; simp only [hn, hp, hat, hw])
    | (go_at_call 6; refine (file_calls n n _ (by omega)).mono ?_; rintro e w2 ⟨vb, rfl, ho2, hB2⟩
       obtain ⟨A, c, hvb, hlc, hA, hrd2⟩ := ho2.parts
       obtain ⟨zs, hzs, hzl⟩ : ∃ zs, Hd (zs = fileTo n n) ∧ Hd (zs.length = n) := ⟨_, ⟨rfl⟩, ⟨fileTo_length _ _⟩⟩
       rw [← hzs.out] at hvb hlc hrd2 ho2
       subst hvb)
    | (refine build_to rfl 30 _ rfl (ints .i64 [ph, at', 0, 0]).toArray (by rw [Array.toList_map]; exact builtUp _ _) ?_)
    | (refine box_blk rfl 30 _ rfl _ rfl (ints .i64 [ph, at', 0, 0]) rfl ?_; intro g1 w3 hg1 hb1 hB3 hs3
       have k3 := hb1.cell 3
       have f3 := hb1.frozen 3
       simp only [ints, List.map_cons, List.map_nil, List.getElem?_cons_succ, List.getElem?_cons_zero] at k3)
    | (go_at_call 7; refine (key_calls n _).mono ?_; rintro e w4 ⟨ids, hil, rfl, hB4⟩
       have hb1k := (hb1.set 3 (.int .i64 0)).belowAll hB4
       have hb1' : Blk w4 g1 30 (ints .i64 [ph, at', 0, 0]) := hb1k)
    | (refine alloc_blk rfl 32 rfl _ rfl (ints .u8 (List.replicate 32 0)) zeroHash ?_; intro g12 w5 hg12 hb12 hB5 hs5)
    | (refine store_blk rfl 32 _ _ rfl g12 (ints .u8 ids) rfl rfl 32 _ hb12 32 infoHash (by simp [ints, hil]) (by simp [ints]) (ints_one _ _) ?_
       have hi12 := hb12.setRow (ints .u8 ids)
       have hu6 := (hb1'.belowAll hB5).setRowOther (g' := g12) (by have := hb1'.lt; omega) (ints .u8 ids).toArray
       have hbw6 := below_setRow (g := g12) hB5 (by omega) (ints .u8 ids).toArray
       generalize hW6 : w5.setRow g12 (ints .u8 ids).toArray = w6 at *)
    | (refine load_blk rfl 32 _ rfl g12 rfl 32 _ hi12 32 5 arrHash (by simp [ints, hil]) infoHash ?_)
    | (go_at_call 8
       have hrd6 : Rd w6 A .u8 zs := ((hrd2.below (hB3.setCell (p := ⟨g1, 3, none⟩) (by show wn1.heap.size ≤ g1; omega) (.int .i64 0))).below hB4).below hbw6
       refine (ask_yes g1 c _ A at' 0 ph ids zs w6 hil hu6 hph rfl hlc hA hrd6 (by have := hzl.out; omega) (by omega)).mono ?_
       rintro e w7 ⟨off, nn, v, rfl, hB7, hsd, hv, hv2⟩
       obtain ⟨A7, l7, c7, rfl⟩ : ∃ A7 l7 c7, v = .slice A7 l7 c7 := by
         by_cases h2 : ph = 2
         · obtain ⟨A7, c7, h7, _⟩ := (hv2 h2).parts
           exact ⟨_, _, _, h7⟩
         · exact ⟨_, _, _, hv h2⟩
       replace hv := hid hv
       replace hv2 := hid hv2
       replace hsd := hid hsd)
    | (refine alloc_blk rfl 37 rfl _ rfl noReq zeroReq ?_; intro g13 w8 hg13 hb13 hB8 hs8)
    | (refine store_blk rfl 37 _ _ rfl g13 (reqCells (opOf ph) ids off nn (.slice A7 l7 c7)) rfl rfl 37 _ hb13 36 infoReq (reqCells_len _ _ _ _ _ hil) (reqCells_len _ _ _ _ _ (by simp)) (reqCells_one _ _ _ _ _ rfl) ?_
       have hbr := hb13.setRow (reqCells (opOf ph) ids off nn (.slice A7 l7 c7))
       have hg1g : g1 ≠ g13 := by have h1 := (hu6.belowAll hB7).lt; omega
       have hg12g : g12 ≠ g13 := by have h1 := (hi12.belowAll hB7).lt; omega
       have hu9 := ((hu6.belowAll hB7).belowAll hB8).setRowOther (g' := g13) hg1g (reqCells (opOf ph) ids off nn (.slice A7 l7 c7)).toArray
       have hi9 := ((hi12.belowAll hB7).belowAll hB8).setRowOther (g' := g13) hg12g (reqCells (opOf ph) ids off nn (.slice A7 l7 c7)).toArray
       have hbw9 := below_setRow (g := g13) hB8 (by omega) (reqCells (opOf ph) ids off nn (.slice A7 l7 c7)).toArray
       generalize w8.setRow g13 (reqCells (opOf ph) ids off nn (.slice A7 l7 c7)).toArray = w9 at *)
    | fail)
  have hc0 := hbr.cell 0
  have hp0 : (0 : Int) ≤ ph := by omega
  have hp5 : (ph : Int) < 5 := by omega
  refine wp_region_facts (ix := [[0], [1], [2], [3], [4], [5], [6], [7], [8], [9], [10], [11], [12], [13], [14], [15], [16]]) (S := fun w' => Below w9.heap.size w9 w')
    (R := fun w w' => ∀ g t cs, Blk w g t cs → Blk w' g t cs)
    (p := fun j vs w' => match j with
      | 0 => vs 0 = .bool true
      | 1 => vs 1 = .bool false
      | 2 => vs 2 = .bool false
      | 3 => vs 3 = .pointer (some ⟨g13, 1, none⟩)
      | 4 => vs 4 = .agg (ints .u8 ids).toArray
      | 5 => vs 5 = .agg (ints .u8 ids).toArray
      | 6 => vs 6 = .bool false
      | 7 => vs 7 = .bool false
      | 8 => vs 8 = .bool false
      | 9 => vs 9 = .pointer (some ⟨g13, 0, none⟩)
      | 10 => vs 10 = .int .i64 (opOf ph)
      | 11 => ∃ g0, vs 11 = .slice (some ⟨g0, 0, none⟩) 5 5 ∧ Blk w' g0 3 (ints .i64 [5, 1, 2, 3, 6])
      | 12 => vs 12 = .int .i64 ph
      | 13 => ∃ g0, vs 13 = .pointer (some ⟨g0, ph, none⟩) ∧ Blk w' g0 3 (ints .i64 [5, 1, 2, 3, 6])
      | 14 => vs 14 = .int .i64 (opOf ph)
      | 15 => vs 15 = .bool false
      | 16 => vs 16 = .bool false
      | _ => True)
    (by kernel_rfl) (by kernel_rfl) ?_ ?_ ?_ ?_
  · exact below_drewN (Below.refl _ _) 1
  · intro j vs w1 w2 hR h
    match j with
    | 0 | 1 | 2 | 3 | 4 | 5 | 6 | 7 | 8 | 9 | 10 | 12 | 14 | 15 | 16 => exact h
    | 11 => obtain ⟨g0, h1, h2⟩ := h; exact ⟨g0, h1, hR _ _ _ h2⟩
    | 13 => obtain ⟨g0, h1, h2⟩ := h; exact ⟨g0, h1, hR _ _ _ h2⟩
    | n + 17 => trivial
  · refine ⟨?_, ?_, ?_, ?_, ?_, ?_, ?_, ?_, ?_, ?_, ?_, ?_, ?_, ?_, ?_, ?_, ?_, trivial⟩
    · (intro vs w2 hS hd; simp [Region.binds, Fact.at] at hd; simp only [fill, List.take_succ_cons, List.take_zero, Act.put, List.setIfInBounds_toArray, List.set_cons_zero, List.set_cons_succ, Nat.reduceAdd])
      go_wp2_with fail
      exact ⟨rfl, rfl, hS, fun _ _ _ h => h⟩
    · (intro vs w2 hS hd; simp [Region.binds, Fact.at] at hd; simp only [fill, List.take_succ_cons, List.take_zero, Act.put, List.setIfInBounds_toArray, List.set_cons_zero, List.set_cons_succ, Nat.reduceAdd])
      simp only [hd]
      go_wp2_with fail
      exact ⟨rfl, rfl, hS, fun _ _ _ h => h⟩
    · (intro vs w2 hS hd; simp [Region.binds, Fact.at] at hd; simp only [fill, List.take_succ_cons, List.take_zero, Act.put, List.setIfInBounds_toArray, List.set_cons_zero, List.set_cons_succ, Nat.reduceAdd])
      simp only [hd]
      go_wp2_with fail
      exact ⟨rfl, rfl, hS, fun _ _ _ h => h⟩
    · (intro vs w2 hS hd; simp [Region.binds, Fact.at] at hd; simp only [fill, List.take_succ_cons, List.take_zero, Act.put, List.setIfInBounds_toArray, List.set_cons_zero, List.set_cons_succ, Nat.reduceAdd])
      simp only [hd]
      go_wp2_with fail
      exact ⟨rfl, rfl, hS, fun _ _ _ h => h⟩
    · (intro vs w2 hS hd; simp [Region.binds, Fact.at] at hd; simp only [fill, List.take_succ_cons, List.take_zero, Act.put, List.setIfInBounds_toArray, List.set_cons_zero, List.set_cons_succ, Nat.reduceAdd])
      simp only [hd]
      have hbr2 := hbr.belowAll hS
      go_wp2_with (first | (refine load_in rfl 32 _ rfl g13 1 rfl (ints .u8 ids) (fun j v hv => by rw [hbr2.cell]; exact reqIds _ _ _ _ _ hil j v hv) 32 5 arrHash (by simp [ints, hil]) infoHash ?_) | fail)
      exact ⟨rfl, rfl, hS, fun _ _ _ h => h⟩
    · (intro vs w2 hS hd; simp [Region.binds, Fact.at] at hd; simp only [fill, List.take_succ_cons, List.take_zero, Act.put, List.setIfInBounds_toArray, List.set_cons_zero, List.set_cons_succ, Nat.reduceAdd])
      simp only [hd]
      have hi2 := hi9.belowAll hS
      go_wp2_with (first | (refine load_in rfl 32 _ rfl g12 0 rfl (ints .u8 ids) (fun j v hv => by rw [hi2.cell, Nat.zero_add]; exact hv) 32 5 arrHash (by simp [ints, hil]) infoHash ?_) | fail)
      exact ⟨rfl, rfl, hS, fun _ _ _ h => h⟩
    · (intro vs w2 hS hd; simp [Region.binds, Fact.at] at hd; simp only [fill, List.take_succ_cons, List.take_zero, Act.put, List.setIfInBounds_toArray, List.set_cons_zero, List.set_cons_succ, Nat.reduceAdd])
      have hE := fun w => run_equalIn_ints (P := Try.prog) w 9998 32 5 32 .u8 arrHash undU8 sizeU8 ids ids hil hil
      rw [show 9998 + 2 = 10000 from rfl] at hE
      simp only [hd]
      go_wp2_with fail
      exact ⟨rfl, rfl, hS, fun _ _ _ h => h⟩
    · (intro vs w2 hS hd; simp [Region.binds, Fact.at] at hd; simp only [fill, List.take_succ_cons, List.take_zero, Act.put, List.setIfInBounds_toArray, List.set_cons_zero, List.set_cons_succ, Nat.reduceAdd])
      simp only [hd]
      go_wp2_with fail
      exact ⟨rfl, rfl, hS, fun _ _ _ h => h⟩
    · (intro vs w2 hS hd; simp [Region.binds, Fact.at] at hd; simp only [fill, List.take_succ_cons, List.take_zero, Act.put, List.setIfInBounds_toArray, List.set_cons_zero, List.set_cons_succ, Nat.reduceAdd])
      simp only [hd]
      go_wp2_with fail
      exact ⟨rfl, rfl, hS, fun _ _ _ h => h⟩
    · (intro vs w2 hS hd; simp [Region.binds, Fact.at] at hd; simp only [fill, List.take_succ_cons, List.take_zero, Act.put, List.setIfInBounds_toArray, List.set_cons_zero, List.set_cons_succ, Nat.reduceAdd])
      simp only [hd]
      go_wp2_with fail
      exact ⟨rfl, rfl, hS, fun _ _ _ h => h⟩
    · (intro vs w2 hS hd; simp [Region.binds, Fact.at] at hd; simp only [fill, List.take_succ_cons, List.take_zero, Act.put, List.setIfInBounds_toArray, List.set_cons_zero, List.set_cons_succ, Nat.reduceAdd])
      have cx : w2.cell? ⟨g13, 0, none⟩ = some (.int .i64 (opOf ph)) := (hbr.belowAll hS).cell 0
      simp only [hd]
      go_wp2_with fail
      exact ⟨rfl, rfl, hS, fun _ _ _ h => h⟩
    · (intro vs w2 hS hd; simp [Region.binds, Fact.at] at hd; simp only [fill, List.take_succ_cons, List.take_zero, Act.put, List.setIfInBounds_toArray, List.set_cons_zero, List.set_cons_succ, Nat.reduceAdd])
      simp only [hd]
      go_wp2_with (first | (refine literal_in rfl 40 3 5 _ rfl .i64 [5, 1, 2, 3, 6] (by kernel_rfl) (by kernel_rfl) (by kernel_rfl) rfl (by decide) (by decide) rfl ?_; intro g0 w3 hg0 hb0 hB0 hs0) | fail)
      exact ⟨rfl, ⟨g0, rfl, hb0⟩, below_then hS hS.size hB0, fun g t cs h => h.belowAll hB0⟩
    · (intro vs w2 hS hd; simp [Region.binds, Fact.at] at hd; simp only [fill, List.take_succ_cons, List.take_zero, Act.put, List.setIfInBounds_toArray, List.set_cons_zero, List.set_cons_succ, Nat.reduceAdd])
      simp only [hd]
      go_wp2_with fail
      exact ⟨rfl, rfl, hS, fun _ _ _ h => h⟩
    · (intro vs w2 hS hd; simp [Region.binds, Fact.at] at hd; simp only [fill, List.take_succ_cons, List.take_zero, Act.put, List.setIfInBounds_toArray, List.set_cons_zero, List.set_cons_succ, Nat.reduceAdd])
      obtain ⟨⟨g0, h0, hb0⟩, hd2⟩ := hd
      simp only [h0, hd2]
      go_wp2_with fail
      exact ⟨rfl, ⟨g0, rfl, hb0⟩, hS, fun _ _ _ h => h⟩
    · (intro vs w2 hS hd; simp [Region.binds, Fact.at] at hd; simp only [fill, List.take_succ_cons, List.take_zero, Act.put, List.setIfInBounds_toArray, List.set_cons_zero, List.set_cons_succ, Nat.reduceAdd])
      obtain ⟨⟨g0, h5, hb0⟩, h8⟩ := hd
      have cl : w2.cell? ⟨g0, ph, none⟩ = some (.int .i64 (opOf ph)) := hb0.cellI ph (by simpa using hph)
      simp only [h8, h5]
      go_wp2_with fail
      exact ⟨rfl, rfl, hS, fun _ _ _ h => h⟩
    · (intro vs w2 hS hd; simp [Region.binds, Fact.at] at hd; simp only [fill, List.take_succ_cons, List.take_zero, Act.put, List.setIfInBounds_toArray, List.set_cons_zero, List.set_cons_succ, Nat.reduceAdd])
      simp only [hd]
      go_wp2_with fail
      exact ⟨rfl, rfl, hS, fun _ _ _ h => h⟩
    · (intro vs w2 hS hd; simp [Region.binds, Fact.at] at hd; simp only [fill, List.take_succ_cons, List.take_zero, Act.put, List.setIfInBounds_toArray, List.set_cons_zero, List.set_cons_succ, Nat.reduceAdd])
      simp only [hd]
      go_wp2_with fail
      exact ⟨rfl, rfl, hS, fun _ _ _ h => h⟩
  · intro vs wq hf hS
    have h16 : vs 16 = .bool false := hf 16 (by simp)
    simp only [fill, Act.put, List.setIfInBounds_toArray, List.set_cons_zero, List.set_cons_succ, Nat.reduceAdd, h16]
    clear hf h16
    generalize vs 0 = v0
    generalize vs 1 = v1
    generalize vs 2 = v2
    generalize vs 3 = v3
    generalize vs 4 = v4
    generalize vs 5 = v5
    generalize vs 6 = v6
    generalize vs 7 = v7
    generalize vs 8 = v8
    generalize vs 9 = v9
    generalize vs 10 = v10
    generalize vs 11 = v11
    generalize vs 12 = v12
    generalize vs 13 = v13
    generalize vs 14 = v14
    generalize vs 15 = v15
    clear vs
    have hbq := hbr.belowAll hS
    have hBq : Below w.heap.size w wq := by
      have z1 := hB1.size
      have z2 := hB2.size
      have z4 := hB4.size
      have z7 := hB7.size
      have z6 := hbw6.size
      have z9 := hbw9.size
      simp at z4
      have c3 := below_then (below_then hB1 z1 hB2) (by omega) hB3
      have c4 := below_then (c3.setCell (p := ⟨g1, 3, none⟩) (by show w.heap.size ≤ g1; omega) (.int .i64 0)) (by simp; omega) hB4
      exact below_then (below_then (below_then (below_then c4 (by omega) hbw6) (by omega) hB7) (by omega) hbw9) (by omega) hS
    have k33 : wq.cell? ⟨g13, 33, none⟩ = some (.int .u32 off) := by rw [hbq.cell 33, req33 _ _ _ _ _ hil]
    have k34 : wq.cell? ⟨g13, 34, none⟩ = some (.int .u32 nn) := by rw [hbq.cell 34, req34 _ _ _ _ _ hil]
    have k35 : wq.cell? ⟨g13, 35, none⟩ = some (.slice A7 l7 c7) := by rw [hbq.cell 35, req35 _ _ _ _ _ hil]
    by_cases h1 : ph = 1
    · have e1 : ((ph : Int) == 1) = true := by simp [h1]
      have hl7 : l7 = 0 := by have := hv.out (by omega); injection this
      have hnn : nn = (n : Int) := by rw [hsd.out.len h1, hzl.out]
      subst hl7 hnn
      have hwn : IntKind.i64.wrap (n : Int) = n := by rw [IntKind.wrap_i64]; omega
      go_wp2_with fail
      go_ret
      exact ⟨by simp, hBq⟩
    have e1 : ((ph : Int) == 1) = false := by rw [beq_eq_false_iff_ne]; omega
    by_cases h2 : ph = 2
    · have e2 : ((ph : Int) == 2) = true := by simp [h2]
      have hoo : off = (at' : Int) := hsd.out.at2 h2
      subst hoo
      obtain ⟨f, hf⟩ : ∃ f : Nat, f = min at' zs.length := ⟨_, rfl⟩
      have hzn := hzl.out
      obtain ⟨L, hL⟩ : ∃ L, L = (zs.drop f).take (min 200 (zs.length - f)) := ⟨_, rfl⟩
      have hown := hv2.out h2
      rw [← hf, ← hL] at hown
      obtain ⟨A7', c7', hv7, _, _, hx7⟩ := hown.parts
      injection hv7 with hA7 hl7 hc7
      subst hA7 hc7
      obtain ⟨u, hu⟩ : ∃ u : Nat, u = min (f + 200) n := ⟨_, rfl⟩
      obtain ⟨q, hq⟩ : ∃ q : Nat, q = f + 200 := ⟨_, rfl⟩
      obtain ⟨A2, hA2⟩ : ∃ A2, (if c = f then A else A.map (·.add f)) = A2 := ⟨_, rfl⟩
      have hLl : L.length = u - f := by rw [hL, List.length_take, List.length_drop]; omega
      have HL7 := hid hl7
      have HUF : Hd (u - f = L.length) := ⟨hLl.symm⟩
      have HLL : Hd (L.length ≤ 1000000000) := ⟨by omega⟩
      have hrd7 : Rd w7 A .u8 zs := ((((hrd2.below (hB3.setCell (p := ⟨g1, 3, none⟩) (by show wn1.heap.size ≤ g1; omega) (.int .i64 0))).below hB4).below hbw6).below hB7)
      have hrdq : Rd wq A .u8 zs := (hrd7.below hbw9).below hS
      have hy := (hrdq.drop f c (by omega) hlc).take (min 200 (zs.length - f))
      rw [hA2, ← hL] at hy
      have HY := hid hy
      have HX : Hd (Rd wq A7 .u8 L) := ⟨(hx7.below hbw9).below hS⟩
      have hmn : (if (n : Int) < at' then (n : Int) else at') = f := by split <;> omega
      have hmn' : (if n < at' then (n : Int) else at') = f := by split <;> omega
      have hwa : IntKind.i64.wrap (at' : Int) = at' := by rw [IntKind.wrap_i64]; omega
      have hq2 : IntKind.i64.wrap ((f : Int) + 200) = q := by rw [IntKind.wrap_i64]; omega
      have hmq : (if (n : Int) < q then (n : Int) else q) = u := by split <;> omega
      have hmq' : (if n < q then (n : Int) else q) = u := by split <;> omega
      have hf0 : (0 : Int) ≤ f := by omega
      have hfu : (f : Int) ≤ u := by omega
      have huc : (u : Int) ≤ c := by omega
      have hfc : (f : Int) ≤ c := by omega
      clear hf hu hq hy hx7 hown hLl hl7 hL hrd7 hrdq
      go_wp2_with fail
      refine wp_region_facts (ix := [[0], [1], [2], [3], [4], [5], [6], [7], [8], [9], [10], [11], [12], [13], [14], [15], [16], [17], [18], [19], [20]]) (S := fun w' => Below wq.heap.size wq w')
        (R := fun _ _ => True)
        (p := fun j vs w' => match j with
        | 0 => vs 0 = .bool true
        | 1 => vs 1 = .bool true
        | 2 => vs 2 = .pointer (some ⟨g13, 33, none⟩)
        | 3 => vs 3 = .int .u32 at'
        | 4 => vs 4 = .int .i64 at'
        | 5 => vs 5 = .int .i64 at'
        | 6 => vs 6 = .bool true
        | 7 => vs 7 = .bool true
        | 8 => vs 8 = .bool true
        | 9 => vs 9 = .pointer (some ⟨g13, 35, none⟩)
        | 10 => vs 10 = .slice A7 l7 c7
        | 11 => vs 11 = .slice A zs.length c
        | 12 => vs 12 = .int .i64 f
        | 13 => vs 13 = .int .i64 f
        | 14 => vs 14 = .int .i64 q
        | 15 => vs 15 = .int .i64 n
        | 16 => vs 16 = .int .i64 u
        | 17 => vs 17 = .slice A2 (u - f) (c - f)
        | 18 => vs 18 = .bool true
        | 19 => vs 19 = .bool true
        | 20 => vs 20 = .bool true
        | _ => True)
        (by kernel_rfl) (by kernel_rfl) ?_ ?_ ?_ ?_
      · exact below_drewN (Below.refl _ _) 1
      · intro j vs w1 w2 _ h
        match j with
        | 0 | 1 | 2 | 3 | 4 | 5 | 6 | 7 | 8 | 9 | 10 | 11 | 12 | 13 | 14 | 15 | 16 | 17 | 18 | 19 | 20 => exact h
        | n + 21 => trivial
      · refine ⟨?_, ?_, ?_, ?_, ?_, ?_, ?_, ?_, ?_, ?_, ?_, ?_, ?_, ?_, ?_, ?_, ?_, ?_, ?_, ?_, ?_, trivial⟩
        · (intro vs w2 hS hd; simp [Region.binds, Fact.at] at hd; simp only [fill, List.take_succ_cons, List.take_zero, Act.put, List.setIfInBounds_toArray, List.set_cons_zero, List.set_cons_succ, Nat.reduceAdd])
          try simp only [hd]
          go_wp2_with fail
          exact ⟨rfl, rfl, hS, trivial⟩
        · (intro vs w2 hS hd; simp [Region.binds, Fact.at] at hd; simp only [fill, List.take_succ_cons, List.take_zero, Act.put, List.setIfInBounds_toArray, List.set_cons_zero, List.set_cons_succ, Nat.reduceAdd])
          try simp only [hd]
          go_wp2_with fail
          exact ⟨rfl, rfl, hS, trivial⟩
        · (intro vs w2 hS hd; simp [Region.binds, Fact.at] at hd; simp only [fill, List.take_succ_cons, List.take_zero, Act.put, List.setIfInBounds_toArray, List.set_cons_zero, List.set_cons_succ, Nat.reduceAdd])
          try simp only [hd]
          go_wp2_with fail
          exact ⟨rfl, rfl, hS, trivial⟩
        · (intro vs w2 hS hd; simp [Region.binds, Fact.at] at hd; simp only [fill, List.take_succ_cons, List.take_zero, Act.put, List.setIfInBounds_toArray, List.set_cons_zero, List.set_cons_succ, Nat.reduceAdd])
          have ck : w2.cell? ⟨g13, 33, none⟩ = some (.int .u32 at') := by rw [(hbq.belowAll hS).cell 33, req33 _ _ _ _ _ hil]
          simp only [hd]
          go_wp2_with fail
          exact ⟨rfl, rfl, hS, trivial⟩
        · (intro vs w2 hS hd; simp [Region.binds, Fact.at] at hd; simp only [fill, List.take_succ_cons, List.take_zero, Act.put, List.setIfInBounds_toArray, List.set_cons_zero, List.set_cons_succ, Nat.reduceAdd])
          try simp only [hd]
          go_wp2_with fail
          exact ⟨rfl, rfl, hS, trivial⟩
        · (intro vs w2 hS hd; simp [Region.binds, Fact.at] at hd; simp only [fill, List.take_succ_cons, List.take_zero, Act.put, List.setIfInBounds_toArray, List.set_cons_zero, List.set_cons_succ, Nat.reduceAdd])
          try simp only [hd]
          go_wp2_with fail
          exact ⟨rfl, rfl, hS, trivial⟩
        · (intro vs w2 hS hd; simp [Region.binds, Fact.at] at hd; simp only [fill, List.take_succ_cons, List.take_zero, Act.put, List.setIfInBounds_toArray, List.set_cons_zero, List.set_cons_succ, Nat.reduceAdd])
          try simp only [hd]
          go_wp2_with fail
          exact ⟨rfl, rfl, hS, trivial⟩
        · (intro vs w2 hS hd; simp [Region.binds, Fact.at] at hd; simp only [fill, List.take_succ_cons, List.take_zero, Act.put, List.setIfInBounds_toArray, List.set_cons_zero, List.set_cons_succ, Nat.reduceAdd])
          try simp only [hd]
          go_wp2_with fail
          exact ⟨rfl, rfl, hS, trivial⟩
        · (intro vs w2 hS hd; simp [Region.binds, Fact.at] at hd; simp only [fill, List.take_succ_cons, List.take_zero, Act.put, List.setIfInBounds_toArray, List.set_cons_zero, List.set_cons_succ, Nat.reduceAdd])
          try simp only [hd]
          go_wp2_with fail
          exact ⟨rfl, rfl, hS, trivial⟩
        · (intro vs w2 hS hd; simp [Region.binds, Fact.at] at hd; simp only [fill, List.take_succ_cons, List.take_zero, Act.put, List.setIfInBounds_toArray, List.set_cons_zero, List.set_cons_succ, Nat.reduceAdd])
          try simp only [hd]
          go_wp2_with fail
          exact ⟨rfl, rfl, hS, trivial⟩
        · (intro vs w2 hS hd; simp [Region.binds, Fact.at] at hd; simp only [fill, List.take_succ_cons, List.take_zero, Act.put, List.setIfInBounds_toArray, List.set_cons_zero, List.set_cons_succ, Nat.reduceAdd])
          have ck : w2.cell? ⟨g13, 35, none⟩ = some (.slice A7 l7 c7) := by rw [(hbq.belowAll hS).cell 35, req35 _ _ _ _ _ hil]
          simp only [hd]
          go_wp2_with fail
          exact ⟨rfl, rfl, hS, trivial⟩
        · (intro vs w2 hS hd; simp [Region.binds, Fact.at] at hd; simp only [fill, List.take_succ_cons, List.take_zero, Act.put, List.setIfInBounds_toArray, List.set_cons_zero, List.set_cons_succ, Nat.reduceAdd])
          try simp only [hd]
          go_wp2_with fail
          exact ⟨rfl, rfl, hS, trivial⟩
        · (intro vs w2 hS hd; simp [Region.binds, Fact.at] at hd; simp only [fill, List.take_succ_cons, List.take_zero, Act.put, List.setIfInBounds_toArray, List.set_cons_zero, List.set_cons_succ, Nat.reduceAdd])
          try simp only [hd]
          go_wp2_with fail
          exact ⟨rfl, rfl, hS, trivial⟩
        · (intro vs w2 hS hd; simp [Region.binds, Fact.at] at hd; simp only [fill, List.take_succ_cons, List.take_zero, Act.put, List.setIfInBounds_toArray, List.set_cons_zero, List.set_cons_succ, Nat.reduceAdd])
          try simp only [hd]
          go_wp2_with fail
          exact ⟨rfl, rfl, hS, trivial⟩
        · (intro vs w2 hS hd; simp [Region.binds, Fact.at] at hd; simp only [fill, List.take_succ_cons, List.take_zero, Act.put, List.setIfInBounds_toArray, List.set_cons_zero, List.set_cons_succ, Nat.reduceAdd])
          try simp only [hd]
          go_wp2_with fail
          exact ⟨rfl, rfl, hS, trivial⟩
        · (intro vs w2 hS hd; simp [Region.binds, Fact.at] at hd; simp only [fill, List.take_succ_cons, List.take_zero, Act.put, List.setIfInBounds_toArray, List.set_cons_zero, List.set_cons_succ, Nat.reduceAdd])
          try simp only [hd]
          go_wp2_with fail
          exact ⟨rfl, rfl, hS, trivial⟩
        · (intro vs w2 hS hd; simp [Region.binds, Fact.at] at hd; simp only [fill, List.take_succ_cons, List.take_zero, Act.put, List.setIfInBounds_toArray, List.set_cons_zero, List.set_cons_succ, Nat.reduceAdd])
          try simp only [hd]
          go_wp2_with fail
          exact ⟨rfl, rfl, hS, trivial⟩
        · (intro vs w2 hS hd; simp [Region.binds, Fact.at] at hd; simp only [fill, List.take_succ_cons, List.take_zero, Act.put, List.setIfInBounds_toArray, List.set_cons_zero, List.set_cons_succ, Nat.reduceAdd])
          try simp only [hd]
          go_wp2_with fail
          exact ⟨rfl, rfl, hS, trivial⟩
        · (intro vs w2 hS hd; simp [Region.binds, Fact.at] at hd; simp only [fill, List.take_succ_cons, List.take_zero, Act.put, List.setIfInBounds_toArray, List.set_cons_zero, List.set_cons_succ, Nat.reduceAdd])
          have hx2 : Rd w2 A7 .u8 L := HX.out.below hS
          have hy2 : Rd w2 A2 .u8 L := HY.out.below hS
          simp only [hd]
          go_wp2_with (first | (go_at_call 9; refine (same_calls L L A7 A2 c7 (c - f) l7 (u - f) w2 HL7.out HUF.out hx2 hy2 HLL.out HLL.out).mono ?_; rintro e wz ⟨rfl, qz, rfl⟩; rw [decide_eq_true (rfl : L = L)]) | fail)
          exact ⟨rfl, rfl, below_drewN hS _, trivial⟩
        · (intro vs w2 hS hd; simp [Region.binds, Fact.at] at hd; simp only [fill, List.take_succ_cons, List.take_zero, Act.put, List.setIfInBounds_toArray, List.set_cons_zero, List.set_cons_succ, Nat.reduceAdd])
          try simp only [hd]
          go_wp2_with fail
          exact ⟨rfl, rfl, hS, trivial⟩
        · (intro vs w2 hS hd; simp [Region.binds, Fact.at] at hd; simp only [fill, List.take_succ_cons, List.take_zero, Act.put, List.setIfInBounds_toArray, List.set_cons_zero, List.set_cons_succ, Nat.reduceAdd])
          try simp only [hd]
          go_wp2_with fail
          exact ⟨rfl, rfl, hS, trivial⟩
      · intro vs wp hf hS2
        have h20 : vs 20 = .bool true := hf 20 (by simp)
        simp only [fill, Act.put, List.setIfInBounds_toArray, List.set_cons_zero, List.set_cons_succ, Nat.reduceAdd, h20]
        clear hf
        go_wp2_with fail
        go_ret
        exact ⟨by simp, below_then hBq hBq.size hS2⟩
    have e2 : ((ph : Int) == 2) = false := by rw [beq_eq_false_iff_ne]; omega
    have hl7 : l7 = 0 := by have := hv.out h2; injection this
    have hnn : nn = 0 := hsd.out.noLen h1
    have hoo : off = 0 := hsd.out.noAt h2
    subst hl7 hnn hoo
    go_wp2_with fail
    go_ret
    exact ⟨by simp, hBq⟩
end Go.Proofs.Ytabpkcjnbhandaa
