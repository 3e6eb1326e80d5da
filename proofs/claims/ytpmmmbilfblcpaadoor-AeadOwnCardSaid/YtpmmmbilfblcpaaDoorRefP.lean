/- The reference's numbers of seventeen bytes: sums. -/
import Derived.Test.YtpmmmbilfblcpaaDoorRefB
namespace Go.Proofs.YtpmmmbilfblcpaaDoor
open Go.RowKit Go.Cour
/-- A word, as it is kept. -/
def m32 (x : Int) : Int := x % 4294967296
theorem and255w (x : Int) (h0 : 0 ≤ x) (h1 : x < 4294967296) : bits .and .u32 x 255 = x % 256 :=
  bits_mask .u32 32 (by decide) (fun n h0 h1 => by rw [IntKind.wrap_u32]; omega) 8 (by decide) x h0 (by simpa using h1)
theorem and3w (x : Int) (h0 : 0 ≤ x) (h1 : x < 4294967296) : bits .and .u32 x 3 = x % 4 :=
  bits_mask .u32 32 (by decide) (fun n h0 h1 => by rw [IntKind.wrap_u32]; omega) 2 (by decide) x h0 (by simpa using h1)
theorem m32_in (x : Int) : 0 ≤ m32 x ∧ m32 x < 4294967296 := ⟨Int.emod_nonneg _ (by decide), Int.emod_lt_of_pos _ (by decide)⟩
def pstep (c : List Int) (s : List Int × Int) (j : Nat) : List Int × Int := (s.1.set j (m32 (m32 (s.2 + rd s.1 j) + rd c j) % 256), m32 (m32 (s.2 + rd s.1 j) + rd c j) / 256)
def plusS (h c : List Int) (n : Nat) : List Int × Int := (List.range n).foldl (pstep c) (h, 0)
def plus1 (h c : List Int) : List Int := (plusS h c 17).1
theorem plusS_succ (h c : List Int) (n : Nat) : plusS h c (n + 1) = pstep c (plusS h c n) n := foldl_succ _ _ _
theorem plusS_length (h c : List Int) : ∀ n, (plusS h c n).1.length = h.length
  | 0 => rfl
  | n + 1 => by rw [plusS_succ]; simp only [pstep, List.length_set]; exact plusS_length h c n
theorem info88 : (Tryd.prog.info? 88).map (·.size) = some 17 := by kernel_rfl
theorem arr88 : Tryd.prog.underlying 88 = some (.array 17 43) := by kernel_rfl
theorem zeroA17w : ((Tryd.prog.info? 88).bind (·.zero)).map (·.cells) = some (ints .u32 (List.replicate 17 0)).toArray := by kernel_rfl
/-- What the blocks of a call hold. -/
structure PB (w wr : World) (g2 g3 g4 : Nat) (h c : List Int) : Prop where
  h : Blk wr g2 88 (ints .u32 h)
  c : Blk wr g3 88 (ints .u32 c)
  o : Blk wr g4 88 (ints .u32 (List.replicate 17 0))
  bel : Below w.heap.size w wr
theorem PB.set {w wr : World} {g2 g3 g4 : Nat} {h c : List Int} (H : PB w wr g2 g3 g4 h c) (hz : w.heap.size ≤ g2 ∧ g2 < g3 ∧ g3 < g4) (i : Nat) (x : Int) : PB w (wr.setCell ⟨g2, i, none⟩ (.int .u32 x)) g2 g3 g4 (h.set i x) c :=
  ⟨H.h.setI i x, H.c.setOther (by simp; omega) _, H.o.setOther (by simp; omega) _, H.bel.setCell (by simp; omega) _⟩
theorem PB.drewN {w wr : World} {g2 g3 g4 : Nat} {h c : List Int} (H : PB w wr g2 g3 g4 h c) (n : Nat) : PB w (wr.drewN n) g2 g3 g4 h c := ⟨H.h.drewN n, H.c.drewN n, H.o.drewN n, below_drewN H.bel n⟩
theorem PB.next {w wr : World} {g2 g3 g4 : Nat} {h c : List Int} (H : PB w wr g2 g3 g4 h c) (hz : w.heap.size ≤ g2 ∧ g2 < g3 ∧ g3 < g4) (n i : Nat) (x : Int) : PB w ((wr.drewN n).setCell ⟨g2, i, none⟩ (.int .u32 x)) g2 g3 g4 (h.set i x) c := (H.drewN n).set hz i x
set_option maxHeartbeats 2000000 in
set_option maxRecDepth 100000 in
theorem plus1_calls (h c : List Int) (w : World) (hh : h.length = 17) (hc : c.length = 17) :
    Calls Tryd.prog 62 #[.agg (ints .u32 h).toArray, .agg (ints .u32 c).toArray] w fun e w' => e = .returned (.agg (ints .u32 (plus1 h c)).toArray) ∧ Below w.heap.size w w' := by
  have HH := hid hh
  have HC := hid hc
  clear hh hc
  go_enter Tryd.func62, Tryd.ntmps62
  go_wp2_with (first
    | (have hx := HH; refine box_blk rfl 88 (.tmp 0) rfl _ rfl (ints .u32 h) rfl ?_; clear hx; intro g2 w1 hg2 hb2 hB1 hs1)
    | (refine box_blk rfl 88 (.tmp 1) rfl _ rfl (ints .u32 c) rfl ?_; intro g3 w2 hg3 hb3 hB2 hs2)
    | (refine alloc_blk rfl 88 rfl _ rfl (ints .u32 (List.replicate 17 0)) zeroA17w ?_; intro g4 w3 hg4 hb4 hB3 hs3)
    | fail)
  have hz : Hd (w.heap.size ≤ g2 ∧ g2 < g3 ∧ g3 < g4) := hid (by omega)
  have hX : PB w w3 g2 g3 g4 h c := ⟨(hb2.belowAll hB2).belowAll hB3, hb3.belowAll hB3, hb4, below_then (below_then hB1 hB1.size hB2) (by omega) hB3⟩
  clear hg2 hb2 hB1 hs1 hg3 hb3 hB2 hs2 hg4 hb4 hB3 hs3
  go_loopg [5, 6] 18 (fun kq v5 v6 wr => ∃ i : Nat, i ≤ 17 ∧ v6 = .int .i64 i ∧ v5 = .int .u32 (plusS h c i).2 ∧ Hd (kq + i = 18) ∧ PB w wr g2 g3 g4 (plusS h c i).1 c)
  case atStart => exact ⟨0, by omega, rfl, rfl, hid (by omega), hX⟩
  case round =>
    clear hX
    obtain ⟨i, hi, rfl, rfl, hgq, hX⟩ := hrel
    have hlen : Hd ((plusS h c i).1.length = 17) := hid (by rw [plusS_length]; exact HH.out)
    by_cases hlt : i < 17
    · have hE : Hd (plusS h c (i + 1) = pstep c (plusS h c i) i) := hid (plusS_succ h c i)
      obtain ⟨S, hS⟩ : ∃ S, Hd (plusS h c i = S) := ⟨_, hid rfl⟩
      rw [hS.out] at hX hlen hE ⊢
      have ch := hX.h.cellI i (by have := hlen.out; omega)
      have cc := hX.c.cellI i (by have := HC.out; omega)
      have fh := hX.h.frozen i
      have a1 : (i : Int) < 17 := by omega
      go_wp2_with fail
      go_quiet (fail)
      obtain ⟨Y, hY⟩ : ∃ Y, Hd (Y = ((S.2 + rd S.1 i) % 4294967296 + rd c i) % 4294967296) := ⟨_, hid rfl⟩
      rw [← hY.out]
      have hYb : 0 ≤ Y ∧ Y < 4294967296 := by rw [hY.out]; exact m32_in _
      have hE2 : Hd (pstep c S i = (S.1.set i (Y % 256), Y / 256)) := hid (by rw [hY.out]; rfl)
      go_wp2_with fail
      go_roundg (gk - 1)
      case measure => have := hgq.out; omega
      case rel =>
        refine ⟨i + 1, by omega, by go_num, ?_, hid (by have := hgq.out; omega), ?_⟩
        · rw [hE.out, hE2.out]
        · rw [hE.out, hE2.out]
          rw [and255w Y hYb.1 hYb.2]
          exact hX.next hz.out nq i (Y % 256)
    · obtain rfl : i = 17 := by omega
      clear hgq hi hlt
      obtain ⟨S, hS⟩ : ∃ S, Hd (plusS h c 17 = S) := ⟨_, hid rfl⟩
      have hP : Hd (plus1 h c = S.1) := hid (by rw [← hS.out]; rfl)
      rw [hS.out] at hX hlen
      have hl17 : (ints .u32 S.1).length = 17 := by simpa using hlen.out
      go_wp2_with (first
        | (refine load_blk rfl 88 _ rfl g2 rfl 88 _ hX.h 17 43 arr88 hl17 info88 ?_)
        | (refine store_blk rfl 88 _ _ rfl g4 (ints .u32 S.1) rfl rfl 88 _ hX.o 17 info88 hl17 (by simp) (ints_one _ _) ?_)
        | fail)
      refine bodyPost_ret (results_blk rfl _ _ g4 88 _ 17 43 rfl (hX.o.setRow _) arr88 hl17 info88) rfl ?_
      exact ⟨by rw [hP.out], below_setRow hX.bel (by have := hz.out; omega) _⟩
end Go.Proofs.YtpmmmbilfblcpaaDoor
