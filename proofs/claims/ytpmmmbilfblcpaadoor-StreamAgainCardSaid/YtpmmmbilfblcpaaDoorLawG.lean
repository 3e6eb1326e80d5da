/- The law StreamAgain. -/
import Derived.Test.YtpmmmbilfblcpaaDoorSOpen
import Derived.Test.YtpmmmbilfblcpaaDoorStrF
import Derived.Test.YtpmmmbilfblcpaaDoorKeyB
import Derived.Test.YtpmmmbilfblcpaaDoorBytes
namespace Go.Proofs.YtpmmmbilfblcpaaDoor
open Go.RowKit Go.Cour
theorem nil_neq (w : World) : (binOp .neq 33 .nilIface .nilIface).run Tryd.prog w = .ok (.bool false) w := by
  obtain ⟨ms, hms⟩ := undErr
  have h : ∀ d : Nat, (Op.equalIn (d + 1) 33 .nilIface .nilIface).run Tryd.prog w = .ok true w := fun d => by simp [Op.equalIn, run_underlying hms]
  simp only [binOp]
  simp [Op.equal, Op.maxDepth, h 9999]
/-- An own slice that is not empty: where it lies; a place of it written. -/
theorem own_at {w : World} {base : Nat} {e : TypeId} {k : IntKind} {v : Value} {xs : List Int} (h : Own w base e k v xs) (hx : 0 < xs.length) :
    ∃ g cap, v = .slice (some ⟨g, 0, none⟩) xs.length cap ∧ base ≤ g ∧ (∀ i, i < xs.length → w.cell? ⟨g, i, none⟩ = some (.int k (rd xs i))) ∧ (∀ i, w.frozen? ⟨g, i, none⟩ = false) ∧
      ∀ i x, Own (w.setCell ⟨g, i, none⟩ (.int k x)) base e k v (xs.set i x) := by
  obtain ⟨h1, ⟨rfl, h2⟩ | ⟨g, cap, cur, rfl, hg, hh, hn, hm, hs, ht⟩⟩ := h
  · omega
  · refine ⟨g, cap, rfl, hg, fun i hi => ?_, fun i => by simp [World.frozen?, hh], fun i x => ⟨by simp, .inr ⟨g, cap, cur.setIfInBounds i (.int k x), by simp, hg, heap_setCell_same w g i cur e _ hh, by simpa using hn, hm, by simpa using hs, ?_⟩⟩⟩
    · have hc : w.cell? ⟨g, i, none⟩ = cur[i]? := cell_of_row w g i cur e (0, 0) hh
      rw [hc]
      have : (ints k xs)[i]? = cur[i]? := by
        rw [← ht, Nat.mul_one, List.getElem?_take, if_pos hi]; simp
      rw [← this, ints_get k xs i hi]
    · rw [← ints_set, ← ht, List.length_set, Array.toList_setIfInBounds, List.take_set]
theorem own_rd {w : World} {base : Nat} {e : TypeId} {k : IntKind} {A : Option Addr} {l c : Nat} {xs : List Int} (h : Own w base e k (.slice A l c) xs) : Rd w A k xs := by
  obtain ⟨A', c', hv, _, _, hr⟩ := h.slice
  injection hv with hv
  subst hv
  exact hr
theorem own_lt {w : World} {base : Nat} {e : TypeId} {k : IntKind} {v : Value} {xs : List Int} (h : Own w base e k v xs) (j : Nat) (hj : v.ownBlock = some j) : j < w.heap.size := by
  rcases h.2 with ⟨rfl, _⟩ | ⟨g, cap, cur, rfl, hg, hh, r⟩
  · simp [Value.ownBlock] at hj
  · have : g = j := by simpa [Value.ownBlock] using hj
    subst this
    exact (Array.getElem?_eq_some_iff.1 hh).1
theorem own_far {w : World} {base B g i : Nat} {e : TypeId} {k : IntKind} {v u : Value} {xs : List Int} (h : Own w base e k v xs) (hl : ∀ j, v.ownBlock = some j → j < B) (hg : B ≤ g) : Own (w.setCell ⟨g, i, none⟩ u) base e k v xs :=
  h.setOther (fun he => by have := hl g he.symm; omega) u
set_option maxHeartbeats 2000000 in
set_option maxRecDepth 100000 in
theorem streamAgain_calls (b : List Int) (A : Option Addr) (n c : Nat) (N i : Int) (last : Bool) {w : World} {P : Nat → Addr} (hE : Errs2 w P) (hi : 0 ≤ i ∧ i < 4294967296)
    (hn : n = b.length) (hr : Rd w A .u8 b) (rb : bytesOk b) (hm : n ≤ 9223372036854775807) :
    Calls Tryd.prog 10 #[.slice A n c, .int .i64 N, .int .u32 i, .bool last] w fun e w' => e = .returned (.bool true) ∧ Below w.heap.size w w' := by
  have HN := hid hn
  have HR := hid hr
  clear hn hr
  by_cases hl : 60 < n
  · have hl2 : (60 : Int) < n := by omega
    go_enter Tryd.func10, Tryd.ntmps10
    go_wp2_with (first
      | (go_at_call 23; refine (first16_calls _).mono ?_; rintro e w1 ⟨rfl, hB1⟩)
      | fail)
    go_ret
    exact ⟨rfl, hB1⟩
  · have hl2 : ¬ (60 : Int) < n := by omega
    have hn60 : n ≤ 60 := by omega
    clear hl hm
    have hnn := nil_neq
    have hne := nil_nil
    go_enter Tryd.func10, Tryd.ntmps10
    go_wp2_with (first
      | (go_at_call 23; refine (first16_calls _).mono ?_; rintro e w1 ⟨rfl, hB1⟩)
      | (go_at_call 35; refine (keyB_calls N w1).mono ?_; rintro e w2 ⟨K, hKl, rK, rfl, hB2⟩
         have hBa := below_then hB1 hB1.size hB2
         obtain ⟨XT, hXT⟩ : ∃ XT, Hd (ssealText K i last b = XT) := ⟨_, ⟨rfl⟩⟩
         have hXl : Hd (n + 16 = XT.length) := hid (by rw [← hXT.out, ssealText, sealText_length, ← HN.out])
         have rX : bytesOk XT := by rw [← hXT.out]; exact sealText_ok _ _ _ _ rb
         have hop0 : Hd (openOf K (nonceOf i last) [] XT = .inl b) := hid (by rw [← hXT.out]; exact open_seal _ _ _ _ rb))
      | (refine alloc_blk rfl 23 rfl _ rfl (ints .u8 (List.replicate 32 0)) (by kernel_rfl) ?_; intro g10 w3 hg10 hb10 hB3 hs3)
      | (refine store_blk rfl 23 _ _ rfl g10 (ints .u8 K) rfl rfl 23 _ hb10 32 info23 (by simp [ints, hKl]) (by simp [ints]) (ints_one _ _) ?_
         have hb10a := hb10.setRow (ints .u8 K)
         have hBw4 := below_setRow (g := g10) hB3 (by omega) (ints .u8 K).toArray
         generalize World.setRow w3 g10 _ = w4 at *
         have hB4 := below_then hBa hBa.size hBw4
         clear hg10 hs3 hb10)
      | (refine load_blk rfl 23 _ rfl g10 rfl 23 _ hb10c 32 5 arr23 (by simp [ints, hKl]) info23 ?_)
      | (refine load_blk rfl 23 _ rfl g10 rfl 23 _ hb10b 32 5 arr23 (by simp [ints, hKl]) info23 ?_)
      | (refine load_blk rfl 23 _ rfl g10 rfl 23 _ hb10a 32 5 arr23 (by simp [ints, hKl]) info23 ?_)
      | (have hx := ho11; clear hx; go_at_call 31; refine (sseal_calls K i last b A n c w5 hKl rK hi HN.out (HR.out.below hB45) (by rw [← HN.out]; omega)).mono ?_
         rintro e w6 ⟨v12, rfl, ho12, hB6⟩
         rw [hXT.out] at ho12
         obtain ⟨A12, c12, hv12, _, _, hr12⟩ := id ho12.parts
         rw [← hXl.out] at hv12
         subst hv12
         have ho11b := ho11.below hB6
         have hB46 := below_then hB45 hB45.size hB6
         have hr12 := hid hr12
         have hb10bb := hb10b.belowAll hB6)
      | (go_at_call 31; refine (sseal_calls K i last b A n c w4 hKl rK hi HN.out (HR.out.below hB4) (by rw [← HN.out]; omega)).mono ?_
         rintro e w5 ⟨v11, rfl, ho11, hB5⟩
         rw [hXT.out] at ho11
         obtain ⟨A11, c11, hv11, hc11, _, _⟩ := id ho11.parts
         rw [← hXl.out] at hv11 hc11
         subst hv11
         have hb10b := hb10a.belowAll hB5
         have hB45 := below_then hB4 hB4.size hB5)
      | (go_at_call 15; refine (bytes_calls b A c n w6 HN.out (HR.out.below hB46) (by omega)).mono ?_
         rintro e w7 ⟨v13, rfl, ho13, hB7⟩
         obtain ⟨A13, c13, hv13, _, _, _⟩ := id ho13.parts
         rw [← HN.out] at hv13
         subst hv13
         have hb10c := hb10bb.belowAll hB7
         have ho11c := ho11b.below hB7
         have hr12c := hid (hr12.out.below hB7)
         have hB47 := below_then hB46 hB46.size hB7)
      | (go_at_call 33; refine (sopen_calls K i last XT A11 (n + 16) c11 (hE.below hB47) hKl rK hi hXl.out hc11 (own_rd ho11c) rX (by rw [← hXl.out]; omega)).mono ?_
         rintro e w8 ⟨v14, er, rfl, hop, hB8⟩
         rw [hop0.out] at hop
         obtain ⟨her, ho14⟩ := hop
         subst her
         obtain ⟨A14, c14, hv14, _, _, _⟩ := id ho14.parts
         rw [← HN.out] at hv14
         subst hv14
         have hb10d := hb10c.belowAll hB8
         have ho11d := ho11c.below hB8
         have ho13d := ho13.below hB8
         have hr12d := hid (hr12c.out.below hB8)
         have hB48 := below_then hB47 hB47.size hB8)
      | (go_at_call 13; refine (same_calls b b A14 A13 c14 c13 n n w9 HN.out HN.out (own_rd (ho14.below hB89)) (own_rd (ho13d.below hB89)) (by rw [← HN.out]; omega) (by rw [← HN.out]; omega)).mono ?_
         rintro e w10 ⟨he3, qd, hqd⟩
         rw [decide_eq_true (rfl : b = b)] at he3
         subst he3
         have hB910 : Below w9.heap.size w9 w10 := by rw [hqd]; exact below_drewN (Below.refl _ _) qd
         clear hqd)
      | (go_at_call 13; refine (same_calls XT XT A11 A12 c11 c12 (n + 16) (n + 16) w8 hXl.out hXl.out (own_rd ho11d) hr12d.out (by rw [← hXl.out]; omega) (by rw [← hXl.out]; omega)).mono ?_
         rintro e w9 ⟨he3, qd, hqd⟩
         rw [decide_eq_true (rfl : XT = XT)] at he3
         subst he3
         have hB89 : Below w8.heap.size w8 w9 := by rw [hqd]; exact below_drewN (Below.refl _ _) qd
         clear hqd)
      | fail)
    have hB810 := hB89.trans ⟨hB910.os, hB910.tape, hB910.output, hB910.size, fun k hk => hB910.block k (by have := hB89.size; omega)⟩
    have hb10e := hb10d.belowAll hB810
    have ho11e := ho11d.below hB810
    have ho13e := ho13d.below hB810
    have ho14e := ho14.below hB810
    have hB410 := below_then hB48 hB48.size hB810
    obtain ⟨B7, hB7e⟩ : ∃ B7, Hd (w7.heap.size = B7) := ⟨_, ⟨rfl⟩⟩
    have hl11 : Hd (∀ j, (Value.slice A11 (n + 16) c11).ownBlock = some j → j < B7) := hid (by rw [← hB7e.out]; exact own_lt ho11c)
    have hl13 : Hd (∀ j, (Value.slice A13 n c13).ownBlock = some j → j < B7) := hid (by rw [← hB7e.out]; exact own_lt ho13)
    have hl10 : Hd (g10 < B7 ∧ w.heap.size ≤ B7) := hid (by rw [← hB7e.out]; exact ⟨hb10c.lt, hB47.size⟩)
    rw [hB7e.out] at ho14e
    have hz10 : Hd (w.heap.size ≤ w10.heap.size) := hid hB410.size
    clear hB1 hB2 hB3 hBw4 hB4 hB5 hB6 hB7 hB8 hB45 hB46 hB47 hB48 hB89 hB910 hB810 ho11 ho11b ho11c ho11d ho12 hr12 hr12c hr12d ho13 ho13d ho14 hb10a hb10b hb10bb hb10c hb10d
    go_loopg [16] (n + 1) (fun kq v16 wr => ∃ k : Nat, k ≤ n ∧ v16 = .int .i64 k ∧ Hd (kq + k = n + 1) ∧ (∃ zs, Hd (zs.length = n) ∧ Own wr B7 5 .u8 (.slice A14 n c14) zs) ∧ Own wr w4.heap.size 5 .u8 (.slice A11 (n + 16) c11) XT ∧ Own wr w6.heap.size 5 .u8 (.slice A13 n c13) b ∧ Blk wr g10 23 (ints .u8 K) ∧ Below w.heap.size w wr)
    case atStart => exact ⟨0, by omega, rfl, hid (by omega), ⟨b, hid HN.out.symm, ho14e⟩, ho11e, ho13e, hb10e, hB410⟩
    case round =>
      clear ho11e ho13e hb10e hB410 ho14e
      obtain ⟨k, hk, rfl, hgq, ⟨zs, hzl, ho14⟩, ho11, ho13, hb10, hB⟩ := hrel
      by_cases hlt : k < n
      · obtain ⟨g, cap, hv, hgB, hcell, hfr, hset⟩ := own_at ho14 (by rw [hzl.out]; omega)
        rw [hzl.out] at hv hcell
        injection hv with hv1 hv2 hv3
        subst hv1
        subst hv3
        have a1 : (k : Int) < n := by omega
        have cx := hcell k hlt
        have fx := hfr k
        clear hcell hfr
        go_wp2_with fail
        go_roundg (gk - 1)
        case measure => have := hgq.out; omega
        case rel =>
          have h10 := hl10.out
          exact ⟨k + 1, by omega, by go_num, hid (by have := hgq.out; omega), ⟨_, hid (by rw [List.length_set]; exact hzl.out), hset k _⟩, own_far ho11 hl11.out hgB, own_far ho13 hl13.out hgB, hb10.setOther (by simp; omega) _, hB.setCell (by simp; omega) _⟩
      · obtain rfl : k = n := by omega
        clear hlt
        go_wp2_with (first
          | (refine load_blk rfl 23 _ rfl g10 rfl 23 _ hb10 32 5 arr23 (by simp [ints, hKl]) info23 ?_)
          | (go_at_call 33; refine (sopen_calls K i last XT A11 (k + 16) c11 (hE.below hB) hKl rK hi hXl.out hc11 (own_rd ho11) rX (by rw [← hXl.out]; omega)).mono ?_
             rintro e w11 ⟨v17, er, rfl, hop, hB11⟩
             rw [hop0.out] at hop
             obtain ⟨her, ho17⟩ := hop
             subst her
             obtain ⟨A17, c17, hv17, _, _, _⟩ := id ho17.parts
             rw [← HN.out] at hv17
             subst hv17
             have ho13b := ho13.below hB11)
          | (go_at_call 13; refine (same_calls b b A17 A13 c17 c13 k k w11 HN.out HN.out (own_rd ho17) (own_rd ho13b) (by rw [← HN.out]; omega) (by rw [← HN.out]; omega)).mono ?_
             rintro e w12 ⟨he3, qd, hqd⟩
             rw [decide_eq_true (rfl : b = b)] at he3
             subst he3
             have hB12 : Below w11.heap.size w11 w12 := by rw [hqd]; exact below_drewN (Below.refl _ _) qd
             clear hqd)
          | fail)
        go_ret
        exact ⟨rfl, below_then (below_then hB hB.size hB11) (by have := hB.size; have := hB11.size; omega) hB12⟩
end Go.Proofs.YtpmmmbilfblcpaaDoor
