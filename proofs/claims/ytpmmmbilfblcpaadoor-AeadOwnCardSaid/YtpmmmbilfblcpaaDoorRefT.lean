/- The reference's numbers of seventeen bytes: products. -/
import Derived.Test.YtpmmmbilfblcpaaDoorRefP
namespace Go.Proofs.YtpmmmbilfblcpaaDoor
open Go.RowKit Go.Cour
def termT (h r : List Int) (i j : Nat) : Int := if j ≤ i then m32 (rd h j * rd r (i - j)) else m32 (m32 (rd h j * 320) * rd r (i + 17 - j))
def accT (h r : List Int) (i : Nat) : Nat → Int
  | 0 => 0
  | n + 1 => m32 (accT h r i n + termT h r i n)
def xTo (h r : List Int) (n : Nat) : List Int := (List.range n).foldl (fun s i => s.set i (accT h r i 17)) (List.replicate 17 0)
theorem xTo_succ (h r : List Int) (n : Nat) : xTo h r (n + 1) = (xTo h r n).set n (accT h r n 17) := foldl_succ _ _ _
theorem xTo_length (h r : List Int) : ∀ n, (xTo h r n).length = 17
  | 0 => by simp [xTo]
  | n + 1 => by rw [xTo_succ, List.length_set]; exact xTo_length h r n
theorem rd_xTo (h r : List Int) (i : Nat) : ∀ n, rd (xTo h r n) i = if i < n ∧ i < 17 then accT h r i 17 else 0
  | 0 => by
    rw [if_neg (by omega)]
    unfold xTo rd
    rw [List.range_zero, List.foldl_nil, List.getD_eq_getElem?_getD, List.getElem?_replicate]
    split <;> rfl
  | n + 1 => by
    rw [xTo_succ, rd_set', xTo_length, rd_xTo h r i n]
    by_cases h1 : n = i
    · subst h1
      by_cases h2 : n < 17
      · rw [if_pos ⟨rfl, h2⟩, if_pos ⟨by omega, h2⟩]
      · rw [if_neg (by omega), if_neg (by omega), if_neg (by omega)]
    · rw [if_neg (by omega)]
      by_cases h2 : i < n ∧ i < 17
      · rw [if_pos h2, if_pos ⟨by omega, h2.2⟩]
      · rw [if_neg h2, if_neg (by omega)]
theorem set_rd (xs : List Int) (i : Nat) (h : i < xs.length) : xs.set i (rd xs i) = xs := by
  apply List.ext_getElem (by simp)
  intro j h1 h2
  rw [List.getElem_set]
  split
  · rename_i he
    subst he
    simp [rd, h]
  · rfl
theorem m32_add (y z : Int) : m32 (y + m32 z) = (y + z) % 4294967296 := by unfold m32; omega
def cstep (s : List Int × Int) (j : Nat) : List Int × Int := (s.1.set j (m32 (s.2 + rd s.1 j) % 256), m32 (s.2 + rd s.1 j) / 256)
def carT (s : List Int × Int) (n : Nat) : List Int × Int := (List.range n).foldl cstep s
theorem carT_succ (s : List Int × Int) (n : Nat) : carT s (n + 1) = cstep (carT s n) n := foldl_succ _ _ _
theorem carT_length (s : List Int × Int) : ∀ n, (carT s n).1.length = s.1.length
  | 0 => rfl
  | n + 1 => by rw [carT_succ]; simp only [cstep, List.length_set]; exact carT_length s n
def midT (s : List Int × Int) : List Int × Int := (s.1.set 16 (m32 (s.2 + rd s.1 16) % 4), m32 (5 * (m32 (s.2 + rd s.1 16) / 4)))
def endT (s : List Int × Int) : List Int := s.1.set 16 (m32 (rd s.1 16 + s.2))
def timesT (h r : List Int) : List Int := endT (carT (midT (carT (xTo h r 17, 0) 16)) 16)
/-- What the blocks of a call hold. -/
structure TB (w wr : World) (g2 g3 g4 g5 : Nat) (h r x : List Int) : Prop where
  h : Blk wr g2 88 (ints .u32 h)
  r : Blk wr g3 88 (ints .u32 r)
  o : Blk wr g4 88 (ints .u32 (List.replicate 17 0))
  x : Blk wr g5 88 (ints .u32 x)
  bel : Below w.heap.size w wr
theorem TB.set {w wr : World} {g2 g3 g4 g5 : Nat} {h r x : List Int} (H : TB w wr g2 g3 g4 g5 h r x) (hz : w.heap.size ≤ g2 ∧ g2 < g3 ∧ g3 < g4 ∧ g4 < g5) (i : Nat) (v : Int) : TB w (wr.setCell ⟨g5, i, none⟩ (.int .u32 v)) g2 g3 g4 g5 h r (x.set i v) :=
  ⟨H.h.setOther (by simp; omega) _, H.r.setOther (by simp; omega) _, H.o.setOther (by simp; omega) _, H.x.setI i v, H.bel.setCell (by simp; omega) _⟩
theorem TB.drew {w wr : World} {g2 g3 g4 g5 : Nat} {h r x : List Int} (H : TB w wr g2 g3 g4 g5 h r x) : TB w wr.drew g2 g3 g4 g5 h r x := ⟨H.h.drew, H.r.drew, H.o.drew, H.x.drew, below_drewN H.bel 1⟩
set_option maxHeartbeats 8000000 in
set_option maxRecDepth 100000 in
theorem times1_calls (h r : List Int) (w : World) (hh : h.length = 17) (hr : r.length = 17) :
    Calls Tryd.prog 61 #[.agg (ints .u32 h).toArray, .agg (ints .u32 r).toArray] w fun e w' => e = .returned (.agg (ints .u32 (timesT h r)).toArray) ∧ Below w.heap.size w w' := by
  have HH := hid hh
  have HR := hid hr
  have HE : Hd (endT (carT (midT (carT (xTo h r 17, 0) 16)) 16) = timesT h r) := hid rfl
  clear hh hr
  go_enter Tryd.func61, Tryd.ntmps61
  go_wp2_with (first
    | (have hx := HH; refine box_blk rfl 88 (.tmp 0) rfl _ rfl (ints .u32 h) rfl ?_; clear hx; intro g2 w1 hg2 hb2 hB1 hs1)
    | (refine box_blk rfl 88 (.tmp 1) rfl _ rfl (ints .u32 r) rfl ?_; intro g3 w2 hg3 hb3 hB2 hs2)
    | (have hx := hb4; refine alloc_blk rfl 88 rfl _ rfl (ints .u32 (List.replicate 17 0)) zeroA17w ?_; clear hx; intro g5 w4 hg5 hb5 hB4 hs4)
    | (refine alloc_blk rfl 88 rfl _ rfl (ints .u32 (List.replicate 17 0)) zeroA17w ?_; intro g4 w3 hg4 hb4 hB3 hs3)
    | fail)
  have hz : Hd (w.heap.size ≤ g2 ∧ g2 < g3 ∧ g3 < g4 ∧ g4 < g5) := hid (by omega)
  have hX : TB w w4 g2 g3 g4 g5 h r (xTo h r 0) := ⟨((hb2.belowAll hB2).belowAll hB3).belowAll hB4, (hb3.belowAll hB3).belowAll hB4, hb4.belowAll hB4, hb5, below_then (below_then (below_then hB1 hB1.size hB2) (by omega) hB3) (by omega) hB4⟩
  clear hg2 hb2 hB1 hs1 hg3 hb3 hB2 hs2 hg4 hb4 hB3 hs3 hg5 hb5 hB4 hs4
  go_loopg [6] 18 (fun kq v6 wr => ∃ i : Nat, i ≤ 17 ∧ v6 = .int .i64 i ∧ Hd (kq + i = 18) ∧ TB w wr g2 g3 g4 g5 h r (xTo h r i))
  case atStart => exact ⟨0, by omega, rfl, hid (by omega), hX⟩
  case round =>
    clear hX
    obtain ⟨i, hi, rfl, hq, hX⟩ := hrel
    obtain ⟨gk1, hgk⟩ : ∃ g : Nat, Hd (g = gk) := ⟨gk, hid rfl⟩
    by_cases hlt : i < 17
    · have hq1 : Hd (gk1 + i = 18) := hid (by rw [hgk.out]; exact hq.out)
      clear hq
      have a1 : (i : Int) < 17 := by omega
      have hd1 : decide ((i : Int) < 17) = true := by simp; omega
      have hs0 : (xTo h r i).set i (accT h r i 0) = xTo h r i := by
        have h0 : rd (xTo h r i) i = 0 := by rw [rd_xTo, if_neg (by omega)]
        have := set_rd (xTo h r i) i (by rw [xTo_length]; omega)
        rw [h0] at this
        exact this
      rw [← hs0] at hX
      clear hs0
      have hE : Hd ((xTo h r i).set i (accT h r i 17) = xTo h r (i + 1)) := hid (xTo_succ h r i).symm
      have hlen : Hd ((xTo h r i).length = 17) := hid (xTo_length h r i)
      generalize xTo h r i = X at hX hE hlen
      go_wp2_with (fail)
      obtain ⟨wo1, rfl⟩ : ∃ wo : World, wo = wr := ⟨_, rfl⟩
      go_loopg [7] 18 (fun kq v7 wr => ∃ j : Nat, j ≤ 17 ∧ v7 = .int .i64 j ∧ Hd (kq + j = 18) ∧ TB w wr g2 g3 g4 g5 h r (X.set i (accT h r i j)))
      case atStart => exact ⟨0, by omega, rfl, hid (by omega), hX⟩
      case round =>
        clear hX
        obtain ⟨j, hj, rfl, hq, hX⟩ := hrel
        by_cases hjlt : j < 17
        · have a2 : (j : Int) < 17 := by omega
          have cx := hX.x.cellI i (by simpa [hlen.out] using hlt)
          have fx := hX.x.frozen i
          have ch := hX.h.cellI j (by have := HH.out; omega)
          have hxe : rd (X.set i (accT h r i j)) i = accT h r i j := by rw [rd_set', if_pos ⟨rfl, by rw [hlen.out]; exact hlt⟩]
          rw [hxe] at cx
          clear hxe
          have hnx : Hd (accT h r i (j + 1) = m32 (accT h r i j + termT h r i j)) := hid rfl
          generalize accT h r i j = Y at *
          obtain ⟨Hj, hHj⟩ : ∃ x, Hd (rd h j = x) := ⟨_, hid rfl⟩
          rw [hHj.out] at ch
          by_cases hle : j ≤ i
          · have a3 : (j : Int) ≤ i := by omega
            have cr := hX.r.cellI (i - j) (by have := HR.out; omega)
            obtain ⟨R, hR⟩ : ∃ x, Hd (rd r (i - j) = x) := ⟨_, hid rfl⟩
            rw [hR.out] at cr
            obtain ⟨d, hdd⟩ : ∃ d, Hd (d = i - j) := ⟨_, hid rfl⟩
            rw [← hdd.out] at cr
            have a4 : (i : Int) - j = d := by have := hdd.out; omega
            have a5 : (d : Int) < 17 := by omega
            have a6 : IntKind.i64.wrap (d : Int) = (d : Int) := IntWalk.i64_in _ (by omega)
            have hte : Hd (termT h r i j = m32 (Hj * R)) := hid (by unfold termT; rw [if_pos hle, hHj.out, hR.out])
            go_wp2_with fail
            refine wp_region_still_tail 15 (by kernel_rfl) (by kernel_rfl) ?_
            simp only [List.take_succ_cons, List.take_zero, List.drop_succ_cons, List.drop_zero]
            change wpStill _ _ (World.drew _) (fun a' => wpList _ _ _ _ a' (World.drew _)) _ _
            repeat still_step
            refine wpStill_nil ?_
            change wpList _ _ _ _ _ _
            go_wp2_with fail
            go_roundg (gk - 1)
            case measure => have := hq.out; omega
            case rel =>
              refine ⟨j + 1, by omega, by go_num, hid (by have := hq.out; omega), ?_⟩
              rw [hnx.out, hte.out]
              rw [m32_add]
              have := (hX.set hz.out i ((Y + Hj * R) % 4294967296)).drew
              rw [List.set_set] at this
              exact this
          · have a3 : ¬ ((j : Int) ≤ i) := by omega
            have cr := hX.r.cellI (i + 17 - j) (by have := HR.out; omega)
            obtain ⟨R, hR⟩ : ∃ x, Hd (rd r (i + 17 - j) = x) := ⟨_, hid rfl⟩
            rw [hR.out] at cr
            obtain ⟨d, hdd⟩ : ∃ d, Hd (d = i + 17 - j) := ⟨_, hid rfl⟩
            rw [← hdd.out] at cr
            have a4 : (i : Int) + 17 - j = d := by have := hdd.out; omega
            have a5 : (d : Int) < 17 := by have := hdd.out; omega
            have a6 : IntKind.i64.wrap (d : Int) = (d : Int) := IntWalk.i64_in _ (by omega)
            have a7 : IntKind.i64.wrap ((i : Int) + 17) = (i : Int) + 17 := IntWalk.i64_in _ (by omega)
            have hte : Hd (termT h r i j = m32 (m32 (Hj * 320) * R)) := hid (by unfold termT; rw [if_neg hle, hHj.out, hR.out])
            go_wp2_with fail
            refine wp_region_still_tail 17 (by kernel_rfl) (by kernel_rfl) ?_
            simp only [List.take_succ_cons, List.take_zero, List.drop_succ_cons, List.drop_zero]
            change wpStill _ _ (World.drew _) (fun a' => wpList _ _ _ _ a' (World.drew _)) _ _
            repeat still_step
            refine wpStill_nil ?_
            change wpList _ _ _ _ _ _
            go_wp2_with fail
            go_roundg (gk - 1)
            case measure => have := hq.out; omega
            case rel =>
              refine ⟨j + 1, by omega, by go_num, hid (by have := hq.out; omega), ?_⟩
              rw [hnx.out, hte.out]
              rw [m32_add]
              have := (hX.set hz.out i ((Y + Hj * 320 % 4294967296 * R) % 4294967296)).drew
              rw [List.set_set] at this
              exact this
        · obtain rfl : j = 17 := by omega
          clear hq hj hjlt
          rw [hE.out] at hX
          go_wp2_with fail
          go_roundg (gk1 - 1)
          case measure => have := hq1.out; have := hgk.out; omega
          case rel => exact ⟨i + 1, by omega, by go_num, hid (by have := hq1.out; have := hgk.out; omega), hX⟩
    · obtain rfl : i = 17 := by omega
      clear hq hi hlt
      go_wp2_with fail
      have hlX : Hd ((xTo h r 17).length = 17) := hid (xTo_length h r 17)
      generalize xTo h r 17 = X at hX HE hlX
      obtain ⟨wo1, rfl⟩ : ∃ wo : World, wo = wr := ⟨_, rfl⟩
      go_loopg [8, 9] 17 (fun kq v8 v9 wr => ∃ j : Nat, j ≤ 16 ∧ v9 = .int .i64 j ∧ v8 = .int .u32 (carT (X, 0) j).2 ∧ Hd (kq + j = 17) ∧ TB w wr g2 g3 g4 g5 h r (carT (X, 0) j).1)
      case atStart => exact ⟨0, by omega, rfl, rfl, hid (by omega), hX⟩
      case round =>
        clear hX
        obtain ⟨j, hj, rfl, rfl, hq, hX⟩ := hrel
        have hlC : Hd ((carT (X, 0) j).1.length = 17) := hid (by rw [carT_length]; exact hlX.out)
        by_cases hjlt : j < 16
        · have hE : Hd (carT (X, 0) (j + 1) = cstep (carT (X, 0) j) j) := hid (carT_succ _ _)
          generalize carT (X, 0) j = S at hX hlC hE ⊢
          have cx := hX.x.cellI j (by have := hlC.out; omega)
          have fx := hX.x.frozen j
          have a1 : (j : Int) < 17 := by omega
          obtain ⟨Y, hY⟩ : ∃ Y, Hd (Y = (S.2 + rd S.1 j) % 4294967296) := ⟨_, hid rfl⟩
          have hYb : 0 ≤ Y ∧ Y < 4294967296 := by rw [hY.out]; exact m32_in _
          have hE2 : Hd (cstep S j = (S.1.set j (Y % 256), Y / 256)) := hid (by rw [hY.out]; rfl)
          go_wp2_with fail
          rw [← hY.out]
          go_roundg (gk - 1)
          case measure => have := hq.out; omega
          case rel =>
            refine ⟨j + 1, by omega, by go_num, ?_, hid (by have := hq.out; omega), ?_⟩
            · rw [hE.out, hE2.out]
            · rw [hE.out, hE2.out]
              rw [and255w Y hYb.1 hYb.2]
              exact hX.set hz.out j (Y % 256)
        · obtain rfl : j = 16 := by omega
          clear hq hj hjlt
          generalize hSe : carT (X, 0) 16 = S at hX hlC HE ⊢
          have cx := hX.x.cellI 16 (by have := hlC.out; omega)
          have fx := hX.x.frozen 16
          obtain ⟨Y, hY⟩ : ∃ Y, Hd (Y = (S.2 + rd S.1 16) % 4294967296) := ⟨_, hid rfl⟩
          have hYb : 0 ≤ Y ∧ Y < 4294967296 := by rw [hY.out]; exact m32_in _
          have hE2 : Hd (midT S = (S.1.set 16 (Y % 4), m32 (5 * (Y / 4)))) := hid (by rw [hY.out]; rfl)
          go_wp2_with fail
          rw [← hY.out, and3w Y hYb.1 hYb.2]
          replace hX := hX.set hz.out 16 (Y % 4)
          generalize hV : (5 * (Y / 4)) % 4294967296 = V
          replace hE2 : Hd (midT S = (S.1.set 16 (Y % 4), V)) := hid (by rw [hE2.out, ← hV]; rfl)
          rw [hE2.out] at HE
          replace hlC : Hd ((S.1.set 16 (Y % 4)).length = 17) := hid (by rw [List.length_set]; exact hlC.out)
          generalize S.1.set 16 (Y % 4) = Z at hX HE hlC
          obtain ⟨wo2, rfl⟩ : ∃ wo : World, wo = wr := ⟨_, rfl⟩
          generalize wo2.setCell ⟨g5, 16, none⟩ (.int .u32 (Y % 4)) = wn at hX ⊢
          go_loopg [8, 10] 17 (fun kq v8 v10 wr => ∃ j : Nat, j ≤ 16 ∧ v10 = .int .i64 j ∧ v8 = .int .u32 (carT (Z, V) j).2 ∧ Hd (kq + j = 17) ∧ TB w wr g2 g3 g4 g5 h r (carT (Z, V) j).1)
          case atStart => exact ⟨0, by omega, rfl, rfl, hid (by omega), hX⟩
          case round =>
            clear hX cx fx hY hYb hE2 hV hSe
            obtain ⟨j, hj, rfl, rfl, hq, hX⟩ := hrel
            have hlD : Hd ((carT (Z, V) j).1.length = 17) := hid (by rw [carT_length]; exact hlC.out)
            by_cases hjlt : j < 16
            · have hE : Hd (carT (Z, V) (j + 1) = cstep (carT (Z, V) j) j) := hid (carT_succ _ _)
              generalize carT (Z, V) j = T at hX hlD hE ⊢
              have cx := hX.x.cellI j (by have := hlD.out; omega)
              have fx := hX.x.frozen j
              have a1 : (j : Int) < 17 := by omega
              obtain ⟨Y1, hY⟩ : ∃ Y, Hd (Y = (T.2 + rd T.1 j) % 4294967296) := ⟨_, hid rfl⟩
              have hYb : 0 ≤ Y1 ∧ Y1 < 4294967296 := by rw [hY.out]; exact m32_in _
              have hE2 : Hd (cstep T j = (T.1.set j (Y1 % 256), Y1 / 256)) := hid (by rw [hY.out]; rfl)
              go_wp2_with fail
              rw [← hY.out]
              go_roundg (gk - 1)
              case measure => have := hq.out; omega
              case rel =>
                refine ⟨j + 1, by omega, by go_num, ?_, hid (by have := hq.out; omega), ?_⟩
                · rw [hE.out, hE2.out]
                · rw [hE.out, hE2.out]
                  rw [and255w Y1 hYb.1 hYb.2]
                  exact hX.set hz.out j (Y1 % 256)
            · obtain rfl : j = 16 := by omega
              clear hq hj hjlt
              generalize hTe : carT (Z, V) 16 = T at hX hlD HE ⊢
              have cx := hX.x.cellI 16 (by have := hlD.out; omega)
              have fx := hX.x.frozen 16
              have hE3 : Hd (timesT h r = T.1.set 16 ((rd T.1 16 + T.2) % 4294967296)) := hid HE.out.symm
              have hX2 := hX.set hz.out 16 ((rd T.1 16 + T.2) % 4294967296)
              have hl17 : Hd ((ints .u32 (T.1.set 16 ((rd T.1 16 + T.2) % 4294967296))).length = 17) := hid (by simpa using hlD.out)
              go_wp2_with (first
                | (refine load_blk rfl 88 _ rfl g5 rfl 88 _ hX2.x 17 43 arr88 hl17.out info88 ?_)
                | (refine store_blk rfl 88 _ _ rfl g4 (ints .u32 (T.1.set 16 ((rd T.1 16 + T.2) % 4294967296))) rfl rfl 88 _ hX2.o 17 info88 hl17.out (by simp) (ints_one _ _) ?_)
                | fail)
              refine bodyPost_ret (results_blk rfl _ _ g4 88 _ 17 43 rfl (hX2.o.setRow _) arr88 hl17.out info88) rfl ?_
              exact ⟨by rw [hE3.out], below_setRow hX2.bel (by have := hz.out; omega) _⟩
end Go.Proofs.YtpmmmbilfblcpaaDoor
