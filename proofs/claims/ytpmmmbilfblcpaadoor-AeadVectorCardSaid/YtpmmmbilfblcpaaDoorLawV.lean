/- The law AeadVector. -/
import Derived.Test.YtpmmmbilfblcpaaDoorFirst7
import Derived.Test.YtpmmmbilfblcpaaDoorVec
import Derived.Test.YtpmmmbilfblcpaaDoorConv
import Derived.Test.YtpmmmbilfblcpaaDoorNum
namespace Go.Proofs.YtpmmmbilfblcpaaDoor
open Go.RowKit Go.Cour
/-- Numbers that are bytes each. -/
theorem bytesOk_of {xs : List Int} (h : (xs.all fun x => decide (0 ≤ x ∧ x < 256)) = true) : bytesOk xs := by
  intro i
  unfold rd
  rw [List.getD_eq_getElem?_getD]
  cases hx : xs[i]? with
  | none => simp
  | some x => exact of_decide_eq_true (List.all_eq_true.1 h x (List.mem_of_getElem? hx))
/-- The first i of the vector's key. -/
def vKTo (i : Nat) : List Int := vK.take i ++ List.replicate (32 - i) 0
theorem vKTo_length (i : Nat) (h : i ≤ 32) : (vKTo i).length = 32 := by simp [vKTo, vK]; omega
theorem vKTo_set : ∀ i : Fin 32, (vKTo i.val).set i.val (128 + (i.val : Int)) = vKTo (i.val + 1) := by decide
theorem vKTo_all : vKTo 32 = vK := by decide
def vS : List Int := vC ++ vG
theorem vS_length : vS.length = 130 := by kernel_rfl
theorem vS_0 : rd vS 0 = 211 := by kernel_rfl
theorem vS_1 : rd vS 1 = 26 := by kernel_rfl
theorem vS_drop : vS.drop 114 = vG := by kernel_rfl
theorem vS_ok : bytesOk vS := bytesOk_of (by kernel_rfl)
theorem vK_ok : bytesOk vK := bytesOk_of (by decide)
theorem vN_ok : bytesOk vN := bytesOk_of (by decide)
def vText : ByteArray := { data := ([76, 97, 100, 105, 101, 115, 32, 97, 110, 100, 32, 71, 101, 110, 116, 108, 101, 109, 101, 110, 32, 111, 102, 32, 116, 104, 101, 32, 99, 108, 97, 115, 115, 32, 111, 102, 32, 39, 57, 57, 58, 32, 73, 102, 32, 73, 32, 99, 111, 117, 108, 100, 32, 111, 102, 102, 101, 114, 32, 121, 111, 117, 32, 111, 110, 108, 121, 32, 111, 110, 101, 32, 116, 105, 112, 32, 102, 111, 114, 32, 116, 104, 101, 32, 102, 117, 116, 117, 114, 101, 44, 32, 115, 117, 110, 115, 99, 114, 101, 101, 110, 32, 119, 111, 117, 108, 100, 32, 98, 101, 32, 105, 116, 46]).toArray }
theorem vText_ints : textInts vText = vT := by kernel_rfl
theorem vText_size : vText.size = 114 := by kernel_rfl
theorem undStr : Tryd.prog.underlying 9 = some .string := by kernel_rfl
theorem undU8 : Tryd.prog.underlying 5 = some (.int .u8) := by kernel_rfl
theorem zeroKeyV : ((Tryd.prog.info? 23).bind (·.zero)).map (·.cells) = some (ints .u8 (List.replicate 32 0)).toArray := by kernel_rfl
theorem zeroN12V : ((Tryd.prog.info? 24).bind (·.zero)).map (·.cells) = some (ints .u8 (List.replicate 12 0)).toArray := by kernel_rfl
theorem infoN12V : (Tryd.prog.info? 24).map (·.size) = some 12 := by kernel_rfl
theorem sizeU8V : (Tryd.prog.info? 5).map (·.size) = some 1 := by kernel_rfl
theorem zeroU8V : ((Tryd.prog.info? 5).bind (·.zero)).isSome = true := by kernel_rfl
/-- What stays in the vector's last region. -/
structure VecS (w : World) (g4 g6 g7 g o : Nat) (K N AD ST : List Int) (wr : World) : Prop where
  k : Blk wr g4 23 (ints .u8 K)
  n : Blk wr g6 24 (ints .u8 N)
  a : Blk wr g7 5 (ints .u8 AD)
  s : Rd wr (some ⟨g, o, none⟩) .u8 ST
  bel : Below w.heap.size w wr
set_option maxHeartbeats 2000000 in
set_option maxRecDepth 100000 in
theorem aeadVector_calls (cut : Int) {w : World} {P : Nat → Addr} (hE : Errs w P) :
    Calls Tryd.prog 5 #[.int .i64 cut] w fun e w' => e = .returned (.bool true) ∧ Below w.heap.size w w' := by
  obtain ⟨Q, hQ⟩ : ∃ Q : Int, Hd (cut % 16 = Q) := ⟨_, ⟨rfl⟩⟩
  obtain ⟨q, hq⟩ : ∃ q : Nat, Q = (q : Int) := ⟨Q.toNat, by have := hQ.out; omega⟩
  subst hq
  have hq16 : q < 16 := by have := hQ.out; omega
  obtain ⟨K, hK⟩ : ∃ K, Hd (vK = K) := ⟨_, ⟨rfl⟩⟩
  obtain ⟨N, hN⟩ : ∃ N, Hd (vN = N) := ⟨_, ⟨rfl⟩⟩
  obtain ⟨AD, hAD⟩ : ∃ AD, Hd (vA = AD) := ⟨_, ⟨rfl⟩⟩
  obtain ⟨TX, hTX⟩ : ∃ TX, Hd (vT = TX) := ⟨_, ⟨rfl⟩⟩
  obtain ⟨ST, hST⟩ : ∃ ST, Hd (vS = ST) := ⟨_, ⟨rfl⟩⟩
  obtain ⟨TG, hTG⟩ : ∃ TG, Hd (vG = TG) := ⟨_, ⟨rfl⟩⟩
  have hKl : Hd (K.length = 32) := hid (by rw [← hK.out]; rfl)
  have hNl : Hd (N.length = 12) := hid (by rw [← hN.out]; rfl)
  have hAl : Hd (12 = AD.length) := hid (by rw [← hAD.out]; rfl)
  have hTl : Hd (114 = TX.length) := hid (by rw [← hTX.out]; rfl)
  have hSl : Hd (130 = ST.length) := hid (by rw [← hST.out]; exact vS_length.symm)
  have hGl : Hd (16 = TG.length) := hid (by rw [← hTG.out]; rfl)
  have hSeal : Hd (sealText K N AD TX = ST) := hid (by rw [← hK.out, ← hN.out, ← hAD.out, ← hTX.out, ← hST.out]; exact vec_seal)
  have rK : bytesOk K := by rw [← hK.out]; exact vK_ok
  have rN : bytesOk N := by rw [← hN.out]; exact vN_ok
  have rS : bytesOk ST := by rw [← hST.out]; exact vS_ok
  go_enter Tryd.func5, Tryd.ntmps5
  go_wp2_with (first
    | (go_at_call 11; refine (first7_calls hE).mono ?_; rintro e w1 ⟨rfl, hB1⟩)
    | (refine alloc_blk rfl 23 rfl _ rfl (ints .u8 (List.replicate 32 0)) zeroKeyV ?_; intro g4 w2 hg4 hb4 hB2 hs2
       have hg4x : Hd (w.heap.size ≤ g4) := hid (by have := hB1.size; omega)
       have hBa := below_then hB1 hB1.size hB2
       clear hg4 hs2)
    | fail)
  go_loopg [5] 33 (fun kq v5 wr => ∃ i : Nat, i ≤ 32 ∧ v5 = .int .i64 i ∧ Hd (kq + i = 33) ∧ Blk wr g4 23 (ints .u8 (vKTo i)) ∧ Below w.heap.size w wr)
  case atStart => exact ⟨0, by omega, rfl, hid (by omega), hb4, hBa⟩
  case round =>
    clear hb4 hBa
    obtain ⟨i, hi, rfl, hgq, hb4, hB⟩ := hrel
    obtain ⟨O, hO⟩ : ∃ O, Hd (vKTo i = O) := ⟨_, ⟨rfl⟩⟩
    have hOl : Hd (O.length = 32) := hid (by rw [← hO.out]; exact vKTo_length i hi)
    rw [hO.out] at hb4
    by_cases hlt : i < 32
    · have a1 : (i : Int) < 32 := by omega
      have co := hb4.cellI i (by rw [hOl.out]; omega)
      have fo := hb4.frozen i
      have hOn : Hd (O.set i (128 + (i : Int)) = vKTo (i + 1)) := hid (by rw [← hO.out]; exact vKTo_set ⟨i, hlt⟩)
      go_wp2_with fail
      go_roundg (gk - 1)
      case measure => have := hgq.out; omega
      case rel =>
        refine ⟨i + 1, by omega, by go_num, hid (by have := hgq.out; omega), ?_, hB.setCell (by have := hg4x.out; simp; omega) _⟩
        rw [← hOn.out]
        exact hb4.setI i _
    · obtain rfl : i = 32 := by omega
      have hOK : Hd (O = K) := hid (by rw [← hO.out, vKTo_all, hK.out])
      rw [hOK.out] at hb4
      clear hlt hi hO hOl
      go_wp2_with (first
        | (refine build_to rfl 24 _ rfl (ints .u8 vN).toArray (by kernel_rfl) ?_; rw [hN.out])
        | (refine alloc_blk rfl 24 rfl _ rfl (ints .u8 (List.replicate 12 0)) zeroN12V ?_; intro g6 w3 hg6 hb6 hB3 hs3)
        | (refine store_blk rfl 24 _ _ rfl g6 (ints .u8 N) rfl rfl 24 _ hb6 12 infoN12V (by simp [ints, hNl.out]) (by simp [ints]) (ints_one _ _) ?_
           have hb6a := hb6.setRow (ints .u8 N)
           have hBw4 := below_setRow (g := g6) hB3 (by omega) (ints .u8 N).toArray
           generalize World.setRow w3 g6 _ = w4 at *
           have hb4a := hb4.belowAll hBw4
           have hB4 := below_then hB hB.size hBw4
           clear hg6 hs3)
        | (have hx := hb4a; refine literal_blk rfl 25 5 12 _ rfl _ rfl .u8 vA undBytes sizeU8V zeroU8V rfl (by omega) (by omega) (by kernel_rfl) ?_; clear hx; intro g7 w5 hg7 hb7 hB5 hs5
           rw [hAD.out] at hb7
           have hb4b := hb4a.belowAll hB5
           have hb6b := hb6a.belowAll hB5
           have hB45 := below_then hB4 hB4.size hB5
           clear hg7 hs5)
        | (refine load_blk rfl 23 _ rfl g4 rfl 23 _ hb4b 32 5 arr23 (by simp [ints, hKl.out]) info23 ?_)
        | (refine load_blk rfl 24 _ rfl g6 rfl 24 _ hb6b 12 5 arr24 (by simp [ints, hNl.out]) info24 ?_)
        | (refine conv_bytes rfl 9 25 5 _ rfl undStr undBytes undU8 vText rfl ?_; rw [vText_ints, hTX.out, vText_size]; intro g8 c8 w6 hg8 hr8 hB6
           have hb4c := hb4b.belowAll hB6
           have hb6c := hb6b.belowAll hB6
           have hb7c := hb7.belowAll hB6
           have hB46 := below_then hB45 hB45.size hB6
           clear hg8)
        | (go_at_call 12; refine (seal_calls K N AD TX (some ⟨g7, 0, none⟩) (some ⟨g8, 0, none⟩) 12 c8 12 114 w6 hKl.out hNl.out rK rN hAl.out (by intro h; cases h) (Rd.ofBlk hb7c) hTl.out hr8 (by rw [← hAl.out]; omega) (by rw [← hTl.out]; omega)).mono ?_
           rintro e w7 ⟨v9, rfl, ho9, hB7⟩
           rw [hSeal.out] at ho9
           obtain ⟨A9, c9, hv9, hc9, _, hr9⟩ := id ho9.parts
           rw [← hSl.out] at hv9 hc9
           obtain ⟨g, o, hA9⟩ := hr9.at (by rw [← hSl.out]; omega)
           subst hA9
           subst hv9
           have hr9 := hid hr9
           have hb4d := hb4c.belowAll hB7
           have hb6d := hb6c.belowAll hB7
           have hb7d := hb7c.belowAll hB7
           have hB47 := below_then hB46 hB46.size hB7
           clear ho9)
        | (have hx := hB47; refine literal_blk rfl 25 5 16 _ rfl _ rfl .u8 vG undBytes sizeU8V zeroU8V rfl (by omega) (by omega) (by kernel_rfl) ?_; clear hx; intro g10 w8 hg10 hb10 hB8 hs8
           rw [hTG.out] at hb10
           have hb4e := hb4d.belowAll hB8
           have hb6e := hb6d.belowAll hB8
           have hb7e := hb7d.belowAll hB8
           have hr9e := hid (hr9.out.below hB8)
           have hB48 := below_then hB47 hB47.size hB8
           have cc0 := hr9e.out.cellAt 0 (by rw [← hSl.out]; omega)
           have cc1 := hr9e.out.cellAt 1 (by rw [← hSl.out]; omega)
           rw [← hST.out, vS_0, Nat.add_zero] at cc0
           rw [← hST.out, vS_1] at cc1
           have hck : ¬ c9 = 114 := by omega
           have hrd : Hd (Rd w8 (some ⟨g, o + 114, none⟩) .u8 TG) := hid (by
             have := rd_slice hr9e.out 114
             rw [Option.map_some, add_lit, ← hST.out, vS_drop, hTG.out] at this
             exact this)
           clear hg10 hs8)
        | (go_at_call 13; refine (same_calls TG TG (some ⟨g, o + 114, none⟩) (some ⟨g10, 0, none⟩) _ 16 16 16 w8 hGl.out hGl.out hrd.out (Rd.ofBlk hb10) (by rw [← hGl.out]; omega) (by rw [← hGl.out]; omega)).mono ?_
           rintro e w9 ⟨he9, qd, hqd⟩
           rw [decide_eq_true (rfl : TG = TG)] at he9
           subst he9
           have hB89 : Below w8.heap.size w8 w9 := by rw [hqd]; exact below_drewN (Below.refl _ _) qd
           have hB49 := below_then hB48 hB48.size hB89
           clear hqd)
        | fail)
      have hVS : VecS w g4 g6 g7 g o K N AD ST w9 := ⟨hb4e.belowAll hB89, hb6e.belowAll hB89, hb7e.belowAll hB89, hr9e.out.below hB89, hB49⟩
      clear hb4 hb4a hb4b hb4c hb4d hb4e hb6 hb6a hb6b hb6c hb6d hb6e hb7 hb7c hb7d hb7e hb10 cc0 cc1
      have hqn : (q : Int) ≤ 130 := by omega
      have hcq : ¬ c9 = q := by omega
      have hO3 : Hd (openOf K N AD (ST.take q) = .inr 2) := hid (by rw [openOf, if_pos (by rw [List.length_take]; omega)])
      have hbe : ((101 : Int) + ((2 : Nat) : Int) == 103) = true := by decide
      refine wp_region_facts (ix := [[0], [1], [2], [3], [4], [5], [6], [7], [8], [9], [10], [11], [12]]) (S := VecS w g4 g6 g7 g o K N AD ST)
        (R := fun w1 w2 => Below w1.heap.size w1 w2)
        (p := fun jO vs w' => match jO with
          | 0 => vs 0 = .agg (ints .u8 K).toArray
          | 1 => vs 1 = .agg (ints .u8 N).toArray
          | 2 => vs 2 = .slice (some ⟨g7, 0, none⟩) 12 12
          | 3 => vs 3 = .slice (some ⟨g, o, none⟩) 130 c9
          | 4 => vs 4 = .int .i64 cut
          | 5 => vs 5 = .int .i64 q
          | 6 => vs 6 = .slice (some ⟨g, o, none⟩) q c9
          | 7 => vs 7 = .tuple #[.slice none 0 0, errV (P 2)]
          | 8 => vs 8 = .tuple #[.slice none 0 0, errV (P 2)]
          | 9 => vs 9 = .slice none 0 0
          | 10 => vs 10 = errV (P 2)
          | 11 => vs 11 = .slice none 0 0
          | 12 => vs 12 = errV (P 2)
          | _ => True)
        (by kernel_rfl) (by kernel_rfl) ?_ ?_ ?_ ?_
      · exact ⟨hVS.k.drew, hVS.n.drew, hVS.a.drew, hVS.s.drew, below_drewN hVS.bel 1⟩
      · intro jO vs w1 w2 hR h
        match jO with
        | 0 | 1 | 2 | 3 | 4 | 5 | 6 | 7 | 8 | 9 | 10 | 11 | 12 => exact h
        | nO + 13 => trivial
      · refine ⟨?_, ?_, ?_, ?_, ?_, ?_, ?_, ?_, ?_, ?_, ?_, ?_, ?_, trivial⟩
        · (intro vs w2 hS hd; simp [Region.binds, Fact.at] at hd; simp only [fill, List.take_succ_cons, List.take_zero, Act.put, List.setIfInBounds_toArray, List.set_cons_zero, List.set_cons_succ, Nat.reduceAdd])
          try simp only [hd]
          go_wp2_with (first
            | (refine load_blk rfl 23 _ rfl g4 rfl 23 _ hS.k 32 5 arr23 (by simp [ints, hKl.out]) info23 ?_)
            | fail)
          exact ⟨rfl, rfl, hS, Below.refl _ _⟩
        · (intro vs w2 hS hd; simp [Region.binds, Fact.at] at hd; simp only [fill, List.take_succ_cons, List.take_zero, Act.put, List.setIfInBounds_toArray, List.set_cons_zero, List.set_cons_succ, Nat.reduceAdd])
          try simp only [hd]
          go_wp2_with (first
            | (refine load_blk rfl 24 _ rfl g6 rfl 24 _ hS.n 12 5 arr24 (by simp [ints, hNl.out]) info24 ?_)
            | fail)
          exact ⟨rfl, rfl, hS, Below.refl _ _⟩
        · (intro vs w2 hS hd; simp [Region.binds, Fact.at] at hd; simp only [fill, List.take_succ_cons, List.take_zero, Act.put, List.setIfInBounds_toArray, List.set_cons_zero, List.set_cons_succ, Nat.reduceAdd])
          try simp only [hd]
          go_wp2_with fail
          exact ⟨rfl, rfl, hS, Below.refl _ _⟩
        · (intro vs w2 hS hd; simp [Region.binds, Fact.at] at hd; simp only [fill, List.take_succ_cons, List.take_zero, Act.put, List.setIfInBounds_toArray, List.set_cons_zero, List.set_cons_succ, Nat.reduceAdd])
          try simp only [hd]
          go_wp2_with fail
          exact ⟨rfl, rfl, hS, Below.refl _ _⟩
        · (intro vs w2 hS hd; simp [Region.binds, Fact.at] at hd; simp only [fill, List.take_succ_cons, List.take_zero, Act.put, List.setIfInBounds_toArray, List.set_cons_zero, List.set_cons_succ, Nat.reduceAdd])
          try simp only [hd]
          go_wp2_with fail
          exact ⟨rfl, rfl, hS, Below.refl _ _⟩
        · (intro vs w2 hS hd; simp [Region.binds, Fact.at] at hd; simp only [fill, List.take_succ_cons, List.take_zero, Act.put, List.setIfInBounds_toArray, List.set_cons_zero, List.set_cons_succ, Nat.reduceAdd])
          simp only [hd]
          go_wp2_with (first
            | (go_at_call 16; refine (number_calls _ _ _ (by omega) (by omega)).mono ?_; rintro e w3 ⟨he3, hw3⟩; rw [hQ.out] at he3; subst he3; subst hw3)
            | fail)
          exact ⟨rfl, rfl, hS, Below.refl _ _⟩
        · (intro vs w2 hS hd; simp [Region.binds, Fact.at] at hd; simp only [fill, List.take_succ_cons, List.take_zero, Act.put, List.setIfInBounds_toArray, List.set_cons_zero, List.set_cons_succ, Nat.reduceAdd])
          simp only [hd]
          go_wp2_with fail
          exact ⟨rfl, rfl, hS, Below.refl _ _⟩
        · (intro vs w2 hS hd; simp [Region.binds, Fact.at] at hd; simp only [fill, List.take_succ_cons, List.take_zero, Act.put, List.setIfInBounds_toArray, List.set_cons_zero, List.set_cons_succ, Nat.reduceAdd])
          simp only [hd]
          go_wp2_with (first
            | (go_at_call 17; refine (open_calls K N AD (ST.take q) (some ⟨g7, 0, none⟩) (some ⟨g, o, none⟩) 12 c9 12 q (hE.below hS.bel).two hKl.out hNl.out rK rN hAl.out (by intro h; cases h) (Rd.ofBlk hS.a) (by rw [List.length_take, ← hSl.out]; omega) (by omega) (hS.s.take q) (bytesOk_take rS q) (by rw [← hAl.out]; omega) (by rw [List.length_take]; omega)).mono ?_; rintro e w3 ⟨v3, er3, rfl, hop, hBz⟩; rw [hO3.out] at hop; obtain ⟨hop1, hop2⟩ := hop; subst hop1; subst hop2)
            | fail)
          exact ⟨rfl, rfl, ⟨hS.k.belowAll hBz, hS.n.belowAll hBz, hS.a.belowAll hBz, hS.s.below hBz, below_then hS.bel hS.bel.size hBz⟩, hBz⟩
        · (intro vs w2 hS hd; simp [Region.binds, Fact.at] at hd; simp only [fill, List.take_succ_cons, List.take_zero, Act.put, List.setIfInBounds_toArray, List.set_cons_zero, List.set_cons_succ, Nat.reduceAdd])
          simp only [hd]
          go_wp2_with fail
          exact ⟨rfl, rfl, hS, Below.refl _ _⟩
        · (intro vs w2 hS hd; simp [Region.binds, Fact.at] at hd; simp only [fill, List.take_succ_cons, List.take_zero, Act.put, List.setIfInBounds_toArray, List.set_cons_zero, List.set_cons_succ, Nat.reduceAdd])
          simp only [hd]
          go_wp2_with fail
          exact ⟨rfl, rfl, hS, Below.refl _ _⟩
        · (intro vs w2 hS hd; simp [Region.binds, Fact.at] at hd; simp only [fill, List.take_succ_cons, List.take_zero, Act.put, List.setIfInBounds_toArray, List.set_cons_zero, List.set_cons_succ, Nat.reduceAdd])
          simp only [hd]
          go_wp2_with fail
          exact ⟨rfl, rfl, hS, Below.refl _ _⟩
        · (intro vs w2 hS hd; simp [Region.binds, Fact.at] at hd; simp only [fill, List.take_succ_cons, List.take_zero, Act.put, List.setIfInBounds_toArray, List.set_cons_zero, List.set_cons_succ, Nat.reduceAdd])
          simp only [hd]
          go_wp2_with fail
          exact ⟨rfl, rfl, hS, Below.refl _ _⟩
        · (intro vs w2 hS hd; simp [Region.binds, Fact.at] at hd; simp only [fill, List.take_succ_cons, List.take_zero, Act.put, List.setIfInBounds_toArray, List.set_cons_zero, List.set_cons_succ, Nat.reduceAdd])
          simp only [hd]
          go_wp2_with fail
          exact ⟨rfl, rfl, hS, Below.refl _ _⟩
      · intro vs wq hf hS
        have h11 : vs 11 = .slice none 0 0 := hf 11 (by simp)
        have h12 : vs 12 = errV (P 2) := hf 12 (by simp)
        simp only [fill, Act.put, List.setIfInBounds_toArray, List.set_cons_zero, List.set_cons_succ, Nat.reduceAdd]
        simp only [h12]
        clear hf
        go_wp2_with (first
          | (go_at_call 19; refine (is_err_calls 103 (hE.below hS.bel) 2 (by omega)).mono ?_; rintro e w3 ⟨he3, hBz⟩; rw [hbe] at he3; subst he3)
          | fail)
        go_ret
        exact ⟨rfl, below_then hS.bel hS.bel.size hBz⟩
end Go.Proofs.YtpmmmbilfblcpaaDoor
