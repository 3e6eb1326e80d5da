/- The reference's block of the stream. -/
import Derived.Test.YtpmmmbilfblcpaaDoorRefQ
namespace Go.Proofs.YtpmmmbilfblcpaaDoor
open Go.RowKit Go.Cour
set_option maxHeartbeats 1000000 in
set_option maxRecDepth 100000 in
theorem word1_calls (g o c : Nat) (b0 b1 b2 b3 : Int) (w : World)
    (h0 : w.cell? ⟨g, o, none⟩ = some (.int .u8 b0)) (h1 : w.cell? ⟨g, o + 1, none⟩ = some (.int .u8 b1)) (h2 : w.cell? ⟨g, o + 2, none⟩ = some (.int .u8 b2)) (h3 : w.cell? ⟨g, o + 3, none⟩ = some (.int .u8 b3))
    (r0 : 0 ≤ b0 ∧ b0 < 256) (r1 : 0 ≤ b1 ∧ b1 < 256) (r2 : 0 ≤ b2 ∧ b2 < 256) (r3 : 0 ≤ b3 ∧ b3 < 256) :
    Calls Tryd.prog 59 #[.slice (some ⟨g, o, none⟩) 4 c] w fun e w' => e = .returned (.int .u32 (word4 b0 b1 b2 b3)) ∧ ∃ m, w' = w.drewN m := by
  go_enter Tryd.func59, Tryd.ntmps59
  go_wp2
  go_quiet (fail)
  go_wp2
  go_ret
  exact ⟨rfl, _, rfl⟩
theorem word1B_calls (g i c : Nat) (t : TypeId) (xs : List Int) (w : World) (hg : Blk w g t (ints .u8 xs)) (hi : i + 3 < xs.length) (r : bytesOk xs) :
    Calls Tryd.prog 59 #[.slice (some ⟨g, i, none⟩) 4 c] w fun e w' => e = .returned (.int .u32 (wordAt xs i)) ∧ ∃ m, w' = w.drewN m :=
  word1_calls g i c _ _ _ _ w (hg.cellI i (by omega)) (hg.cellI _ (by omega)) (hg.cellI _ (by omega)) (hg.cellI _ (by omega)) (r _) (r _) (r _) (r _)
theorem firstK_ctr (key : List Int) (c : Int) : ∀ n, n ≤ 8 → (firstK key 0 n).set 12 c = firstK key c n
  | 0, _ => rfl
  | n + 1, h => by rw [firstK_succ, firstK_succ, ← firstK_ctr key c n (by omega), List.set_comm _ _ (by omega)]
/-- What the blocks of a call hold. -/
structure RB (w wr : World) (g3 g5 g6 g7 : Nat) (key nonce first : List Int) : Prop where
  k : Blk wr g3 23 (ints .u8 key)
  n : Blk wr g5 24 (ints .u8 nonce)
  r : Blk wr g6 44 (ints .u8 (List.replicate 64 0))
  f : Blk wr g7 65 (ints .u32 first)
  bel : Below w.heap.size w wr
theorem RB.drewN {w wr : World} {g3 g5 g6 g7 : Nat} {key nonce first : List Int} (h : RB w wr g3 g5 g6 g7 key nonce first) (n : Nat) : RB w (wr.drewN n) g3 g5 g6 g7 key nonce first := ⟨h.k.drewN n, h.n.drewN n, h.r.drewN n, h.f.drewN n, below_drewN h.bel n⟩
theorem RB.set {w wr : World} {g3 g5 g6 g7 : Nat} {key nonce first : List Int} (h : RB w wr g3 g5 g6 g7 key nonce first) (h3 : g3 < g7) (h5 : g5 < g7) (h6 : g6 < g7) (hw : w.heap.size ≤ g7) (i : Nat) (x : Int) :
    RB w (wr.setCell ⟨g7, i, none⟩ (.int .u32 x)) g3 g5 g6 g7 key nonce (first.set i x) :=
  ⟨h.k.setOther (by simp; omega) _, h.n.setOther (by simp; omega) _, h.r.setOther (by simp; omega) _, h.f.setI i x, h.bel.setCell (by simp; omega) _⟩
theorem RB.below {w wr wx : World} {g3 g5 g6 g7 : Nat} {key nonce first : List Int} (h : RB w wr g3 g5 g6 g7 key nonce first) (hb : Below wr.heap.size wr wx) : RB w wx g3 g5 g6 g7 key nonce first :=
  ⟨h.k.belowAll hb, h.n.belowAll hb, h.r.belowAll hb, h.f.belowAll hb, below_then h.bel h.bel.size hb⟩
theorem RB.row {w wr : World} {g3 g5 g6 g7 g : Nat} {key nonce first : List Int} (h : RB w wr g3 g5 g6 g7 key nonce first) (h3 : g3 < g) (h5 : g5 < g) (h6 : g6 < g) (h7 : g7 < g) (hw : w.heap.size ≤ g) (cs : Array Value) :
    RB w (wr.setRow g cs) g3 g5 g6 g7 key nonce first :=
  ⟨h.k.setRowOther (by omega) _, h.n.setRowOther (by omega) _, h.r.setRowOther (by omega) _, h.f.setRowOther (by omega) _, below_setRow h.bel hw _⟩
theorem RB.setN {w wr : World} {g3 g5 g6 g7 : Nat} {key nonce first : List Int} (h : RB w wr g3 g5 g6 g7 key nonce first) (h3 : g3 < g7) (h5 : g5 < g7) (h6 : g6 < g7) (hw : w.heap.size ≤ g7) (i : Nat) (x : Int) (m : Nat) :
    RB w ((wr.drewN m).setCell ⟨g7, i, none⟩ (.int .u32 x)) g3 g5 g6 g7 key nonce (first.set i x) := (h.drewN m).set h3 h5 h6 hw i x
theorem sliceKey1 (w : World) (g i : Nat) (h : i < 8) :
    (Instr.sliceAt 23 (.pointer (some ⟨g, 0, none⟩)) (some (.int .i64 (4 * (i : Int)))) (some (.int .i64 (4 * (i : Int) + 4))) none).run Tryd.prog w = .ok (.slice (some ⟨g, 4 * i, none⟩) 4 (32 - 4 * i)) w := by
  have ha : Tryd.prog.arrayLen 23 = 32 := by kernel_rfl
  have hs : (sizeOf (Tryd.prog.elem 23)).run Tryd.prog w = .ok 1 w := by kernel_rfl
  rw [run_sliceAt_array_lh (P := Tryd.prog) w 23 ⟨g, 0, none⟩ (by kernel_rfl) .i64 .i64 _ _ (by omega) (by omega) (by rw [ha]; omega), hs, ha]
  have e1 : (4 * (i : Int)).toNat = 4 * i := by omega
  have e2 : (4 * (i : Int) + 4).toNat = 4 * i + 4 := by omega
  rw [e1, e2]
  simp only [Result.andThen, slicedAt]
  rw [if_neg (by omega), add_lit, Nat.mul_one, Nat.zero_add, show 4 * i + 4 - 4 * i = 4 by omega]
theorem sliceNonce1 (w : World) (g i : Nat) (h : i < 3) :
    (Instr.sliceAt 24 (.pointer (some ⟨g, 0, none⟩)) (some (.int .i64 (4 * (i : Int)))) (some (.int .i64 (4 * (i : Int) + 4))) none).run Tryd.prog w = .ok (.slice (some ⟨g, 4 * i, none⟩) 4 (12 - 4 * i)) w := by
  have ha : Tryd.prog.arrayLen 24 = 12 := by kernel_rfl
  have hs : (sizeOf (Tryd.prog.elem 24)).run Tryd.prog w = .ok 1 w := by kernel_rfl
  rw [run_sliceAt_array_lh (P := Tryd.prog) w 24 ⟨g, 0, none⟩ (by kernel_rfl) .i64 .i64 _ _ (by omega) (by omega) (by rw [ha]; omega), hs, ha]
  have e1 : (4 * (i : Int)).toNat = 4 * i := by omega
  have e2 : (4 * (i : Int) + 4).toNat = 4 * i + 4 := by omega
  rw [e1, e2]
  simp only [Result.andThen, slicedAt]
  rw [if_neg (by omega), add_lit, Nat.mul_one, Nat.zero_add, show 4 * i + 4 - 4 * i = 4 by omega]
/-- What they hold in the rounds. -/
structure RR (w wr : World) (g6 g7 g10 : Nat) (first s : List Int) : Prop where
  r : Blk wr g6 44 (ints .u8 (List.replicate 64 0))
  f : Blk wr g7 65 (ints .u32 first)
  s : Blk wr g10 65 (ints .u32 s)
  bel : Below w.heap.size w wr
theorem RR.next {w wr wx : World} {g6 g7 g10 : Nat} {first s : List Int} (h : RR w wr g6 g7 g10 first s) (hb : Below wr.heap.size wr wx) (hz : w.heap.size ≤ g6 ∧ g6 < g7 ∧ g7 < g10) (s' : List Int) :
    RR w (wx.setRow g10 (ints .u32 s').toArray) g6 g7 g10 first s' :=
  ⟨(h.r.belowAll hb).setRowOther (by omega) _, (h.f.belowAll hb).setRowOther (by omega) _, (h.s.belowAll hb).setRow _, below_setRow (below_then h.bel h.bel.size hb) (by omega) _⟩
/-- What they hold when the bytes are laid. -/
structure RO (w wr : World) (g6 g7 g10 g14 : Nat) (first s out : List Int) : Prop extends RR w wr g6 g7 g10 first s where
  o : Blk wr g14 44 (ints .u8 out)
theorem RO.next {w wr : World} {g6 g7 g10 g14 : Nat} {first s out : List Int} (h : RO w wr g6 g7 g10 g14 first s out) (hz : w.heap.size ≤ g6 ∧ g6 < g7 ∧ g7 < g10 ∧ g10 < g14) (i : Nat) (x : Int) :
    RO w (wr.setCell ⟨g14, i, none⟩ (.int .u8 x)).drew g6 g7 g10 g14 first s (out.set i x) :=
  ⟨⟨(h.r.setOther (by simp; omega) _).drew, (h.f.setOther (by simp; omega) _).drew, (h.s.setOther (by simp; omega) _).drew, (h.bel.setCell (by simp; omega) _).drew⟩, (h.o.setI i x).drew⟩
set_option maxHeartbeats 8000000 in
set_option maxRecDepth 100000 in
theorem block1_calls (key nonce : List Int) (c : Int) (w : World) (hk : key.length = 32) (hn : nonce.length = 12) (rk : bytesOk key) (rn : bytesOk nonce) (hc : 0 ≤ c ∧ c < 4294967296) :
    Calls Tryd.prog 53 #[.agg (ints .u8 key).toArray, .int .u32 c, .agg (ints .u8 nonce).toArray] w fun e w' => e = .returned (.agg (ints .u8 (block key c nonce)).toArray) ∧ Below w.heap.size w w' := by
  have HBL : Hd (outTo (rounds (firstN key c nonce 3) 10) (firstN key c nonce 3) 64 = block key c nonce) := hid rfl
  have HW : Hd (words (firstN key c nonce 3)) := hid (words_firstN key hc nonce 3)
  have HK := hid hk
  have HN := hid hn
  have HC := hid hc
  clear hk hn hc
  go_enter Tryd.func53, Tryd.ntmps53
  go_wp2_with (first
    | (refine box_blk rfl 23 _ rfl _ rfl (ints .u8 key) rfl ?_; intro g3 w1 hg3 hb3 hB1 hs1)
    | (refine box_blk rfl 24 _ rfl _ rfl (ints .u8 nonce) rfl ?_; intro g5 w2 hg5 hb5 hB2 hs2)
    | (refine alloc_blk rfl 44 rfl _ rfl (ints .u8 (List.replicate 64 0)) (by kernel_rfl) ?_; intro g6 w3 hg6 hb6 hB3 hs3)
    | (refine build_to rfl 65 _ rfl (ints .u32 (first0 0)).toArray (by kernel_rfl) ?_)
    | (refine alloc_blk rfl 65 rfl _ rfl (ints .u32 (List.replicate 16 0)) zeroA16 ?_; intro g7 w4 hg7 hb7 hB4 hs4)
    | (refine store_blk rfl 65 _ _ rfl g7 (ints .u32 (first0 0)) rfl rfl 65 _ hb7 16 info65 (by simp [ints, first0]) (by simp [ints]) (ints_one _ _) ?_)
    | fail)
  have hz3 : Hd (w.heap.size ≤ g3 ∧ w.heap.size ≤ g6 ∧ g3 < g5 ∧ g5 < g6 ∧ g6 < g7) := hid (by omega)
  have hR0 : RB w (w4.setRow g7 (ints .u32 (first0 0)).toArray) g3 g5 g6 g7 key nonce (firstK key 0 0) := by
    have hz := hz3.out
    refine ⟨?_, ?_, ?_, hb7.setRow _, below_setRow (below_then (below_then (below_then hB1 hB1.size hB2) (by omega) hB3) (by omega) hB4) (by omega) _⟩
    · exact (((hb3.belowAll hB2).belowAll hB3).belowAll hB4).setRowOther (by omega) _
    · exact ((hb5.belowAll hB3).belowAll hB4).setRowOther (by omega) _
    · exact (hb6.belowAll hB4).setRowOther (by omega) _
  clear hb3 hb5 hb6 hb7 hB1 hB2 hB3 hB4 hg3 hg5 hg6 hg7 hs1 hs2 hs3 hs4
  generalize w4.setRow g7 (ints .u32 (first0 0)).toArray = w5 at *
  go_loopg [8] 9 (fun kq v8 wr => ∃ i : Nat, i ≤ 8 ∧ v8 = .int .i64 i ∧ Hd (kq + i = 9) ∧ RB w wr g3 g5 g6 g7 key nonce (firstK key 0 i))
  case atStart => exact ⟨0, by omega, rfl, hid (by omega), hR0⟩
  case round =>
    clear hR0
    obtain ⟨i, hi, rfl, hq, hS⟩ := hrel
    by_cases hlt : i < 8
    · have hfc := hS.f.cellI (4 + i) (by rw [firstK_length]; omega)
      have hff := hS.f.frozen (4 + i)
      have hsl := sliceKey1 wr g3 i hlt
      have hz := hid hz3.out
      go_wp2_with (first
        | (go_at_call 59; refine (word1B_calls g3 (4 * i) (32 - 4 * i) _ key _ hS.k (by have := HK.out; omega) rk).mono ?_; rintro e w' ⟨rfl, m, rfl⟩; replace hfc : (wr.drewN m).cell? ⟨g7, 4 + i, none⟩ = _ := hfc; replace hff : (wr.drewN m).frozen? ⟨g7, 4 + i, none⟩ = _ := hff)
        | fail)
      go_roundg (gk - 1)
      case measure => have := hq.out; omega
      case rel => exact ⟨i + 1, by omega, by go_num, hid (by have := hq.out; omega), by rw [firstK_succ]; exact hS.setN (by have := hz.out; omega) (by have := hz.out; omega) (by have := hz.out; omega) (by have := hz.out; omega) (4 + i) _ m⟩
    · obtain rfl : i = 8 := by omega
      clear hq hi hlt
      have hfc := hS.f.cellI 12 (by rw [firstK_length]; omega)
      have hff := hS.f.frozen 12
      obtain ⟨hzA, hzB⟩ := hz3.out
      go_wp2_with (fail)
      have hS2 := hS.set (by omega) (by omega) (by omega) (by omega) 12 c
      rw [firstK_ctr key c 8 (by omega)] at hS2
      clear hS hfc hff
      obtain ⟨wo, rfl⟩ : ∃ wo : World, wo = wr := ⟨_, rfl⟩
      generalize wo.setCell ⟨g7, 12, none⟩ (.int .u32 c) = wn at *
      replace hS2 : RB w wn g3 g5 g6 g7 key nonce (firstN key c nonce 0) := hS2
      go_loopg [9] 4 (fun kq v9 wr => ∃ i : Nat, i ≤ 3 ∧ v9 = .int .i64 i ∧ Hd (kq + i = 4) ∧ RB w wr g3 g5 g6 g7 key nonce (firstN key c nonce i))
      case atStart => exact ⟨0, by omega, rfl, hid (by omega), hS2⟩
      case round =>
        clear hS2
        obtain ⟨i, hi, rfl, hq, hS⟩ := hrel
        by_cases hlt : i < 3
        · have hfc := hS.f.cellI (13 + i) (by rw [firstN_length]; omega)
          have hff := hS.f.frozen (13 + i)
          have hsl := sliceNonce1 wr g5 i hlt
          go_wp2_with (first
            | (go_at_call 59; refine (word1B_calls g5 (4 * i) (12 - 4 * i) _ nonce _ hS.n (by have := HN.out; omega) rn).mono ?_; rintro e w' ⟨rfl, m, rfl⟩; replace hfc : (wr.drewN m).cell? ⟨g7, 13 + i, none⟩ = _ := hfc; replace hff : (wr.drewN m).frozen? ⟨g7, 13 + i, none⟩ = _ := hff)
            | fail)
          go_roundg (gk - 1)
          case measure => have := hq.out; omega
          case rel => exact ⟨i + 1, by omega, by go_num, hid (by have := hq.out; omega), by rw [firstN_succ]; exact hS.setN (by omega) (by omega) (by omega) (by omega) (13 + i) _ m⟩
        · obtain rfl : i = 3 := by omega
          clear hq hi hlt
          have hlF : Hd ((ints .u32 (firstN key c nonce 3)).length = 16) := hid (by simpa using firstN_length key c nonce 3)
          have hw3 := HW.out
          generalize firstN key c nonce 3 = F at *
          go_wp2_with (first
            | (refine load_blk rfl 65 _ rfl g7 rfl 65 _ hS.f 16 43 arr65 hlF.out info65 ?_)
            | (refine alloc_blk rfl 65 rfl _ rfl (ints .u32 (List.replicate 16 0)) zeroA16 ?_; intro g10 w10 hg10 hb10 hB10 hs10)
            | (refine store_blk rfl 65 _ _ rfl g10 (ints .u32 F) rfl rfl 65 _ hb10 16 info65 hlF.out (by simp [ints]) (ints_one _ _) ?_)
            | fail)
          have hb7 := hS.f.lt
          have hz : Hd (w.heap.size ≤ g6 ∧ g6 < g7 ∧ g7 < g10) := hid (by omega)
          have hR : RR w (w10.setRow g10 (ints .u32 F).toArray) g6 g7 g10 F F :=
            ⟨(hS.r.belowAll hB10).setRowOther (by omega) _, (hS.f.belowAll hB10).setRowOther (by omega) _, hb10.setRow _, below_setRow (below_then hS.bel hS.bel.size hB10) (by omega) _⟩
          clear hS hb10 hB10 hg10 hs10 hb7 hzA hzB hz3
          have HL3 : Hd (F.length = 16) := hid (by simpa using hlF.out)
          clear hlF
          generalize w10.setRow g10 (ints .u32 F).toArray = w11 at *
          go_loopg [11] 11 (fun kq v11 wr => ∃ i : Nat, i ≤ 10 ∧ v11 = .int .i64 i ∧ Hd (kq + i = 11) ∧ RR w wr g6 g7 g10 F (rounds F i))
          case atStart => exact ⟨0, by omega, rfl, hid (by omega), hR⟩
          case round =>
            clear hR
            obtain ⟨i, hi, rfl, hq, hR⟩ := hrel
            obtain ⟨gk1, hgk⟩ : ∃ g : Nat, Hd (g = gk) := ⟨gk, hid rfl⟩
            by_cases hlt : i < 10
            · have hq1 : Hd (gk1 + i = 11) := hid (by rw [hgk.out]; exact hq.out)
              clear hq
              have hd1 : decide ((i : Int) < 10) = true := by simp; omega
              go_wp2_with (fail)
              obtain ⟨wo1, rfl⟩ : ∃ wo : World, wo = wr := ⟨_, rfl⟩
              go_loopg [12] 5 (fun kq v12 wr => ∃ j : Nat, j ≤ 4 ∧ v12 = .int .i64 j ∧ Hd (kq = 5 - j) ∧ RR w wr g6 g7 g10 F (cols (rounds F i) j))
              case atStart => exact ⟨0, by omega, rfl, hid rfl, by rw [cols_zero]; exact hR⟩
              case round =>
                clear hR
                obtain ⟨j, hj, rfl, hq2, hR⟩ := hrel
                by_cases hjlt : j < 4
                · have hlS : Hd ((cols (rounds F i) j).length = 16) := hid (by rw [cols_length, rounds_length]; exact HL3.out)
                  have hwS : Hd (words (cols (rounds F i) j)) := hid (words_cols (words_rounds hw3 i) j)
                  go_wp2_with (first
                    | (refine load_blk rfl 65 _ rfl g10 rfl 65 _ hR.s 16 43 arr65 (by simpa using hlS.out) info65 ?_)
                    | (go_at_call 60; refine (quarter1_calls j (4 + j) (8 + j) (12 + j) _ _ _ _ (cols (rounds F i) j) _ hlS.out (by omega) (by omega) (by omega) (by omega) hwS.out rfl (by omega) (by omega) (by omega)).mono ?_; rintro e wx ⟨rfl, hbx⟩)
                    | (refine store_blk rfl 65 _ _ rfl g10 (ints .u32 (quarter (cols (rounds F i) j) j (4 + j) (8 + j) (12 + j))) rfl rfl 65 _ (hR.s.belowAll hbx) 16 info65 (by simpa [quarter_length] using hlS.out) (by simpa using hlS.out) (ints_one _ _) ?_)
                    | fail)
                  go_roundg (gk - 1)
                  case measure => have := hq2.out; omega
                  case rel => exact ⟨j + 1, by omega, by go_num, hid (by have := hq2.out; omega), by rw [cols_succ]; exact hR.next hbx hz.out _⟩
                · have hj4 : (j : Int) = 4 := by omega
                  rw [hj4]
                  obtain rfl : j = 4 := by omega
                  clear hq2 hj hjlt hj4
                  go_wp2_with fail
                  obtain ⟨wo2, rfl⟩ : ∃ wo : World, wo = wr := ⟨_, rfl⟩
                  go_loopg [13] 5 (fun kq v13 wr => ∃ j : Nat, j ≤ 4 ∧ v13 = .int .i64 j ∧ Hd (kq = 5 - j) ∧ RR w wr g6 g7 g10 F (diags (cols (rounds F i) 4) j))
                  case atStart => exact ⟨0, by omega, rfl, hid rfl, by rw [diags_zero]; exact hR⟩
                  case round =>
                    clear hR
                    obtain ⟨j, hj, rfl, hq2, hR⟩ := hrel
                    by_cases hjlt : j < 4
                    · have hlS : Hd ((diags (cols (rounds F i) 4) j).length = 16) := hid (by rw [diags_length, cols_length, rounds_length]; exact HL3.out)
                      have hwS : Hd (words (diags (cols (rounds F i) 4) j)) := hid (words_diags (words_cols (words_rounds hw3 i) 4) j)
                      go_wp2_with (first
                        | (refine load_blk rfl 65 _ rfl g10 rfl 65 _ hR.s 16 43 arr65 (by simpa using hlS.out) info65 ?_)
                        | (go_at_call 60; refine (quarter1_calls j (4 + (j + 1) % 4) (8 + (j + 2) % 4) (12 + (j + 3) % 4) _ _ _ _ (diags (cols (rounds F i) 4) j) _ hlS.out (by omega) (by omega) (by omega) (by omega) hwS.out rfl (by omega) (by omega) (by omega)).mono ?_; rintro e wx ⟨rfl, hbx⟩)
                        | (refine store_blk rfl 65 _ _ rfl g10 (ints .u32 (quarter (diags (cols (rounds F i) 4) j) j (4 + (j + 1) % 4) (8 + (j + 2) % 4) (12 + (j + 3) % 4))) rfl rfl 65 _ (hR.s.belowAll hbx) 16 info65 (by simpa [quarter_length] using hlS.out) (by simpa using hlS.out) (ints_one _ _) ?_)
                        | fail)
                      go_roundg (gk - 1)
                      case measure => have := hq2.out; omega
                      case rel => exact ⟨j + 1, by omega, by go_num, hid (by have := hq2.out; omega), by rw [diags_succ]; exact hR.next hbx hz.out _⟩
                    · have hj4 : (j : Int) = 4 := by omega
                      rw [hj4]
                      obtain rfl : j = 4 := by omega
                      clear hq2 hj hjlt hj4
                      go_wp2_with fail
                      go_roundg (gk1 - 1)
                      case measure => have := hq1.out; have := hgk.out; omega
                      case rel => exact ⟨i + 1, by omega, by go_num, hid (by have := hq1.out; have := hgk.out; omega), by rw [rounds_succ]; exact hR⟩
            · obtain rfl : i = 10 := by omega
              clear hq hi hlt
              go_wp2_with (first
                | (refine alloc_blk rfl 44 rfl _ rfl (ints .u8 (List.replicate 64 0)) (by kernel_rfl) ?_; intro g14 w14 hg14 hb14 hB14 hs14)
                | fail)
              have hz : Hd (w.heap.size ≤ g6 ∧ g6 < g7 ∧ g7 < g10 ∧ g10 < g14) := hid (by have := hR.s.lt; have := hz.out; omega)
              have hO : RO w w14 g6 g7 g10 g14 F (rounds F 10) (outTo (rounds F 10) F 0) := ⟨⟨hR.r.belowAll hB14, hR.f.belowAll hB14, hR.s.belowAll hB14, below_then hR.bel hR.bel.size hB14⟩, hb14⟩
              clear hR hb14 hB14 hg14 hs14
              have hlS : (rounds F 10).length = 16 := by rw [rounds_length]; exact HL3.out
              have HLS := hid hlS
              clear hlS hw3 HW
              generalize rounds F 10 = S at hO HBL HLS
              go_loopg [15] 65 (fun kq v15 wr => ∃ i : Nat, i ≤ 64 ∧ v15 = .int .i64 i ∧ Hd (kq = 65 - i) ∧ RO w wr g6 g7 g10 g14 F S (outTo S F i))
              case atStart => exact ⟨0, by omega, rfl, hid rfl, hO⟩
              case round =>
                clear hO
                obtain ⟨i, hi, rfl, hq, hO⟩ := hrel
                by_cases hlt : i < 64
                · obtain ⟨q, r, hqr, hr, hq16⟩ : ∃ q r : Nat, Hd (i = 4 * q + r) ∧ r < 4 ∧ q < 16 := ⟨i / 4, i % 4, hid (by omega), by omega, by omega⟩
                  have cs := hO.s.cellI q (by have := HLS.out; omega)
                  have cf := hO.f.cellI q (by have := HL3.out; omega)
                  have co := hO.o.cellI i (by rw [outTo_length]; omega)
                  have fo := hO.o.frozen i
                  go_wp2_with fail
                  have a1 : IntKind.i64.wrap ((i : Int) / 4) = (q : Int) := by
                    have := hqr.out
                    rw [IntWalk.i64_in _ (by omega)]
                    omega
                  have a2 : (i : Int).tmod 4 = (r : Int) := by
                    have := hqr.out
                    rw [Int.tmod_eq_emod_of_nonneg (by omega)]
                    omega
                  have a3 : IntKind.i64.wrap (8 * (r : Int)) = 8 * (r : Int) := IntWalk.i64_in _ (by omega)
                  have a4 : 0 ≤ 8 * (r : Int) := by omega
                  have a5 : 8 * (r : Int) ≤ 32 := by omega
                  have a6 : (q : Int) < 16 := by omega
                  have a7 : (i : Int) < 64 := by omega
                  refine wp_region_still_tail 17 (by kernel_rfl) (by kernel_rfl) ?_
                  simp only [List.take_succ_cons, List.take_zero, List.drop_succ_cons, List.drop_zero]
                  change wpStill _ _ (World.drew _) (fun a' => wpList _ _ _ _ a' (World.drew _)) _ _
                  repeat still_step
                  refine wpStill_nil ?_
                  change wpList _ _ _ _ _ _
                  clear a1 a2 a3 a4 a5 a6
                  go_wp2_with fail
                  go_roundg (gk - 1)
                  case measure => have := hq.out; omega
                  case rel =>
                    refine ⟨i + 1, by omega, by go_num, hid (by have := hq.out; omega), ?_⟩
                    have hb := outByte_eq S F i q r hqr.out hr
                    have hn := hO.next hz.out i (outByte S F i)
                    rw [← outTo_succ, hb] at hn
                    rw [show min (8 * r) 32 = 8 * r by omega]
                    exact hn
                · obtain rfl : i = 64 := by omega
                  clear hq hi hlt
                  have hl64 : (ints .u8 (outTo S F 64)).length = 64 := by simpa using outTo_length S F 64
                  go_wp2_with (first
                    | (refine load_blk rfl 44 _ rfl g14 rfl 44 _ hO.o 64 5 arr44 hl64 info44 ?_)
                    | (refine store_blk rfl 44 _ _ rfl g6 _ rfl rfl 44 _ hO.r 64 info44 hl64 (by simp) (ints_one _ _) ?_))
                  refine bodyPost_ret (results_blk rfl _ _ g6 44 _ 64 5 rfl (hO.r.setRow _) arr44 hl64 info44) rfl ?_
                  exact ⟨by rw [HBL.out], below_setRow hO.bel (by have := hz.out; omega) _⟩
end Go.Proofs.YtpmmmbilfblcpaaDoor
