/- The law AeadOwn. -/
import Derived.Test.YtpmmmbilfblcpaaDoorOpn
import Derived.Test.YtpmmmbilfblcpaaDoorNum
import Derived.Test.YtpmmmbilfblcpaaDoorInv
import Derived.Test.YtpmmmbilfblcpaaDoorSwap
namespace Go.Proofs.YtpmmmbilfblcpaaDoor
open Go.RowKit Go.Cour
theorem own_parts2 {w : World} {base : Nat} {e : TypeId} {k : IntKind} {v : Value} {xs : List Int} {n : Nat} (h : Own w base e k v xs) (hn : n = xs.length) : ∃ A c, v = .slice A n c ∧ n ≤ c ∧ (A = none → c = 0) ∧ Rd w A k xs := by subst hn; exact h.parts
set_option maxHeartbeats 4000000 in
set_option maxRecDepth 100000 in
theorem aeadOwn_calls (key nonce ad b : List Int) (A A' : Option Addr) (c c' n n' : Nat) (at' : Int) {w : World} {P : Nat → Addr} (hE : Errs w P) (hk : key.length = 32) (hnl : nonce.length = 12) (rk : bytesOk key) (rn : bytesOk nonce)
    (hn : n = ad.length) (hA : A = none → c = 0) (hr : Rd w A .u8 ad) (ra : bytesOk ad) (hn' : n' = b.length) (hc' : n' ≤ c') (hr' : Rd w A' .u8 b) (rb : bytesOk b) (hm : n ≤ 9223372036854775807) (hm' : n' ≤ 9223372036854775807) :
    Calls Tryd.prog 7 #[.agg (ints .u8 key).toArray, .agg (ints .u8 nonce).toArray, .slice A n c, .slice A' n' c', .int .i64 at'] w fun e w' => e = .returned (.bool true) ∧ Below w.heap.size w w' := by
  have HN := hid hn
  have HN' := hid hn'
  have HR := hid hr
  have HR' := hid hr'
  have HK := hid hk
  have HNL := hid hnl
  clear hn hn' hr hr' hk hnl
  by_cases hl : 60 < n ∨ 60 < n'
  · by_cases hl1 : 60 < n
    · have hl2 : (60 : Int) < n := by omega
      clear hl
      go_enter Tryd.func7, Tryd.ntmps7
      go_wp2_with (first
        | (refine box_blk rfl 23 _ rfl _ rfl (ints .u8 key) rfl ?_; intro g4 w1 hg4 hb4 hB1 hs1)
        | (refine box_blk rfl 24 _ rfl _ rfl (ints .u8 nonce) rfl ?_; intro g5 w2 hg5 hb5 hB2 hs2; have hB := below_then hB1 hB1.size hB2; clear hg4 hg5 hs1 hs2)
        | (go_at_call 11; refine (first7_calls (hE.below hB)).mono ?_; rintro e w3 ⟨rfl, hB3⟩)
        | fail)
      go_ret
      exact ⟨rfl, below_then hB hB.size hB3⟩
    · have hl2 : ¬ (60 : Int) < n := by omega
      have hl3 : (60 : Int) < n' := by omega
      clear hl
      go_enter Tryd.func7, Tryd.ntmps7
      go_wp2_with (first
        | (refine box_blk rfl 23 _ rfl _ rfl (ints .u8 key) rfl ?_; intro g4 w1 hg4 hb4 hB1 hs1)
        | (refine box_blk rfl 24 _ rfl _ rfl (ints .u8 nonce) rfl ?_; intro g5 w2 hg5 hb5 hB2 hs2; have hB := below_then hB1 hB1.size hB2; clear hg4 hg5 hs1 hs2)
        | (go_at_call 11; refine (first7_calls (hE.below hB)).mono ?_; rintro e w3 ⟨rfl, hB3⟩)
        | fail)
      go_ret
      exact ⟨rfl, below_then hB hB.size hB3⟩
  · have hl2 : ¬ (60 : Int) < n := by omega
    have hl3 : ¬ (60 : Int) < n' := by omega
    have hn2 : n ≤ 60 := by omega
    have hn2' : n' ≤ 60 := by omega
    clear hl hm hm'
    obtain ⟨ST, hST⟩ : ∃ ST, Hd (sealText key nonce ad b = ST) := ⟨_, ⟨rfl⟩⟩
    have hSTl : Hd (n' + 16 = ST.length) := hid (by rw [← hST.out, sealText_length, ← HN'.out])
    have rST : bytesOk ST := by rw [← hST.out]; exact sealText_ok _ _ _ _ rb
    have hOP : Hd (openOf key nonce ad ST = .inl b) := hid (by rw [← hST.out]; exact open_seal _ _ _ _ rb)
    obtain ⟨ki, hki, hkl⟩ : ∃ ki : Nat, Hd (at' % ((n' + 16 : Nat) : Int) = (ki : Int)) ∧ ki < n' + 16 := ⟨(at' % ((n' + 16 : Nat) : Int)).toNat, hid (by have := Int.emod_nonneg at' (show ((n' + 16 : Nat) : Int) ≠ 0 by omega); omega), by have := Int.emod_nonneg at' (show ((n' + 16 : Nat) : Int) ≠ 0 by omega); have := Int.emod_lt_of_pos at' (show 0 < ((n' + 16 : Nat) : Int) by omega); omega⟩
    have hnn := nil_neq
    go_enter Tryd.func7, Tryd.ntmps7
    go_wp2_with (first
      | (refine box_blk rfl 23 _ rfl _ rfl (ints .u8 key) rfl ?_; intro g5 w1 hg5 hb5 hB1 hs1)
      | (refine box_blk rfl 24 _ rfl _ rfl (ints .u8 nonce) rfl ?_; intro g6 w2 hg6 hb6 hB2 hs2
         replace hb5 := hb5.belowAll hB2
         have hB := below_then hB1 hB1.size hB2
         have hG : Hd (w.heap.size ≤ g5 ∧ w.heap.size ≤ g6) := hid (by omega)
         clear hB1 hB2 hg5 hg6 hs1 hs2)
      | (go_at_call 11; refine (first7_calls (hE.below hB)).mono ?_; rintro e w3 ⟨rfl, hB3⟩
         (replace hb5 := hb5.belowAll hB3; replace hb6 := hb6.belowAll hB3; replace hB := below_then hB hB.size hB3)
         clear hB3)
      | fail)
    -- x
    refine (bytes_calls ad A c n _ HN.out (HR.out.below hB) (by omega)).mono ?_
    rintro e w4 ⟨v12, rfl, ho12, hB4⟩
    obtain ⟨A12, c12, hv12, hc12, hA12, hr12⟩ := own_parts2 ho12 HN.out
    subst hv12
    (replace hb5 := hb5.belowAll hB4; replace hb6 := hb6.belowAll hB4; replace hB := below_then hB hB.size hB4)
    clear hB4 ho12
    go_wp2_with fail
    -- y
    refine (bytes_calls b A' c' n' _ HN'.out (HR'.out.below hB) (by omega)).mono ?_
    rintro e w5 ⟨v13, rfl, ho13, hB5⟩
    obtain ⟨A13, c13, hv13, hc13, hA13, hr13⟩ := own_parts2 ho13 HN'.out
    subst hv13
    (replace hb5 := hb5.belowAll hB5; replace hb6 := hb6.belowAll hB5; replace hr12 := hr12.below hB5; replace hB := below_then hB hB.size hB5)
    clear hB5
    go_wp2_with (first
      | (refine load_blk rfl 23 _ rfl g5 rfl 23 _ hb5 32 5 arr23 (by simpa using HK.out) info23 ?_)
      | (refine load_blk rfl 24 _ rfl g6 rfl 24 _ hb6 12 5 arr24 (by simpa using HNL.out) info24 ?_)
      | fail)
    -- c
    refine (seal_calls key nonce ad b A12 A13 c12 c13 n n' _ HK.out HNL.out rk rn HN.out hA12 hr12 HN'.out hr13 (by rw [← HN.out]; omega) (by rw [← HN'.out]; omega)).mono ?_
    rintro e w6 ⟨v14, rfl, ho14, hB6⟩
    rw [hST.out] at ho14
    have hl13 : Hd (∀ j, (Value.slice A13 n' c13).ownBlock = some j → j < w5.heap.size) := hid (own_lt ho13)
    have hl56 : Hd (g5 < w5.heap.size ∧ g6 < w5.heap.size ∧ w.heap.size ≤ w5.heap.size) := hid ⟨hb5.lt, hb6.lt, hB.size⟩
    have hz6 : Hd (w5.heap.size ≤ w6.heap.size) := hid hB6.size
    (replace hb5 := hb5.belowAll hB6; replace hb6 := hb6.belowAll hB6; replace hr12 := hr12.below hB6; replace hr13 := hr13.below hB6; replace ho13 := ho13.below hB6; replace hB := below_then hB hB.size hB6)
    clear hB6
    obtain ⟨g14, c14, hv14, hg14, _, _, _⟩ := own_at ho14 (by rw [← hSTl.out]; omega)
    obtain ⟨_, c14', hv14', hc14, _, hr14⟩ := own_parts2 ho14 hSTl.out
    rw [← hSTl.out] at hv14
    rw [hv14] at hv14'
    injection hv14' with e1 e2 e3
    subst e1 e3
    subst hv14
    go_wp2_with fail
    -- was
    refine (bytes_calls ST (some ⟨g14, 0, none⟩) c14 (n' + 16) _ hSTl.out hr14 (by omega)).mono ?_
    rintro e w7 ⟨v15, rfl, ho15, hB7⟩
    obtain ⟨A15, c15, hv15, _, _, hr15⟩ := own_parts2 ho15 hSTl.out
    subst hv15
    have hl14 : Hd (g14 < w6.heap.size) := hid (own_lt ho14 g14 rfl)
    have hz7 : Hd (w6.heap.size ≤ w7.heap.size) := hid hB7.size
    (replace hb5 := hb5.belowAll hB7; replace hb6 := hb6.belowAll hB7; replace hr12 := hr12.below hB7; replace hr13 := hr13.below hB7; replace ho13 := ho13.below hB7; replace ho14 := ho14.below hB7; replace hr14 := hr14.below hB7; replace hB := below_then hB hB.size hB7)
    clear hB7
    go_wp2_with (first
      | (refine load_blk rfl 23 _ rfl g5 rfl 23 _ hb5 32 5 arr23 (by simpa using HK.out) info23 ?_)
      | (refine load_blk rfl 24 _ rfl g6 rfl 24 _ hb6 12 5 arr24 (by simpa using HNL.out) info24 ?_)
      | fail)
    -- d
    refine (open_calls key nonce ad ST A12 (some ⟨g14, 0, none⟩) c12 c14 n (n' + 16) (hE.two.below hB) HK.out HNL.out rk rn HN.out hA12 hr12 hSTl.out hc14 hr14 rST (by rw [← HN.out]; omega) (by rw [← hSTl.out]; omega)).mono ?_
    rintro e w8 ⟨v16, er, rfl, hop, hB8⟩
    rw [hOP.out] at hop
    obtain ⟨her, ho16⟩ := hop
    subst her
    obtain ⟨A16, c16, hv16, hc16, hA16, hr16⟩ := own_parts2 ho16 HN'.out
    subst hv16
    have hl15 : Hd (∀ j, (Value.slice A15 (n' + 16) c15).ownBlock = some j → j < w7.heap.size) := hid (own_lt ho15)
    (replace hb5 := hb5.belowAll hB8; replace hb6 := hb6.belowAll hB8; replace hr12 := hr12.below hB8; replace hr13 := hr13.below hB8; replace ho13 := ho13.below hB8; replace ho14 := ho14.below hB8; replace ho15 := ho15.below hB8; replace hr14 := hr14.below hB8; replace hr15 := hr15.below hB8; replace hB := below_then hB hB.size hB8)
    clear hB8
    go_wp2_with fail
    -- c is what it was; so are x, y
    refine (same_calls ST ST (some ⟨g14, 0, none⟩) A15 c14 c15 (n' + 16) (n' + 16) _ hSTl.out hSTl.out hr14 hr15 (by rw [← hSTl.out]; omega) (by rw [← hSTl.out]; omega)).mono ?_
    rintro e w9 ⟨he9, q9, hq9⟩
    rw [decide_eq_true (rfl : ST = ST)] at he9
    subst he9
    have hB9 : Below w8.heap.size w8 w9 := by rw [hq9]; exact below_drewN (Below.refl _ _) q9
    (replace hb5 := hb5.belowAll hB9; replace hb6 := hb6.belowAll hB9; replace hr12 := hr12.below hB9; replace hr13 := hr13.below hB9; replace ho13 := ho13.below hB9; replace ho14 := ho14.below hB9; replace ho15 := ho15.below hB9; replace ho16 := ho16.below hB9; replace hB := below_then hB hB.size hB9)
    clear hB9 hq9 hr14 hr15 hr16
    go_wp2_with fail
    refine (same_calls ad ad A12 A c12 c n n _ HN.out HN.out hr12 (HR.out.below hB) (by rw [← HN.out]; omega) (by rw [← HN.out]; omega)).mono ?_
    rintro e w10 ⟨he9, q9, hq9⟩
    rw [decide_eq_true (rfl : ad = ad)] at he9
    subst he9
    have hB9 : Below w9.heap.size w9 w10 := by rw [hq9]; exact below_drewN (Below.refl _ _) q9
    (replace hb5 := hb5.belowAll hB9; replace hb6 := hb6.belowAll hB9; replace hr13 := hr13.below hB9; replace ho13 := ho13.below hB9; replace ho14 := ho14.below hB9; replace ho15 := ho15.below hB9; replace ho16 := ho16.below hB9; replace hB := below_then hB hB.size hB9)
    clear hB9 hq9 hr12
    go_wp2_with fail
    refine (same_calls b b A13 A' c13 c' n' n' _ HN'.out HN'.out hr13 (HR'.out.below hB) (by rw [← HN'.out]; omega) (by rw [← HN'.out]; omega)).mono ?_
    rintro e w11 ⟨he9, q9, hq9⟩
    rw [decide_eq_true (rfl : b = b)] at he9
    subst he9
    have hB9 : Below w10.heap.size w10 w11 := by rw [hq9]; exact below_drewN (Below.refl _ _) q9
    (replace hb5 := hb5.belowAll hB9; replace hb6 := hb6.belowAll hB9; replace ho13 := ho13.below hB9; replace ho14 := ho14.below hB9; replace ho15 := ho15.below hB9; replace ho16 := ho16.below hB9; replace hB := below_then hB hB.size hB9)
    clear hB9 hq9 hr13
    go_wp2_with fail
    go_loopg [18] (n' + 1) (fun kq v18 wr => ∃ i : Nat, i ≤ n' ∧ v18 = .int .i64 i ∧ Hd (kq + i = n' + 1) ∧ (∃ zs, Hd (zs.length = n') ∧ Own wr w7.heap.size 5 .u8 (.slice A16 n' c16) zs) ∧ Blk wr g5 23 (ints .u8 key) ∧ Blk wr g6 24 (ints .u8 nonce) ∧ Own wr w4.heap.size 5 .u8 (.slice A13 n' c13) b ∧ Own wr w5.heap.size 5 .u8 (.slice (some ⟨g14, 0, none⟩) (n' + 16) c14) ST ∧ Own wr w6.heap.size 5 .u8 (.slice A15 (n' + 16) c15) ST ∧ Below w.heap.size w wr)
    case atStart => exact ⟨0, by omega, rfl, hid (by omega), ⟨b, hid HN'.out.symm, ho16⟩, hb5, hb6, ho13, ho14, ho15, hB⟩
    case round =>
      clear ho16 hb5 hb6 ho13 ho14 ho15 hB
      obtain ⟨i, hi, rfl, hq, ⟨zs, hzl, ho16⟩, hb5, hb6, ho13, ho14, ho15, hB⟩ := hrel
      have z6 := hz6.out
      have z7 := hz7.out
      have z5 := hl56.out
      by_cases hlt : i < n'
      · obtain ⟨g, cap, hv, hgB, hcell, hfr, hset⟩ := own_at ho16 (by rw [hzl.out]; omega)
        rw [hzl.out] at hv hcell
        injection hv with hv1 hv2 hv3
        subst hv1
        subst hv3
        have a1 : (i : Int) < n' := by omega
        have cx := hcell i hlt
        have fx := hfr i
        clear hcell hfr
        go_wp2_with fail
        go_roundg (gk - 1)
        case measure => have := hq.out; omega
        case rel =>
          exact ⟨i + 1, by omega, by go_num, hid (by have := hq.out; omega), ⟨_, hid (by rw [List.length_set]; exact hzl.out), hset i _⟩, hb5.setOther (by simp; omega) _, hb6.setOther (by simp; omega) _, own_far ho13 (fun j hj => by have := hl13.out j hj; omega) hgB, own_far ho14 (fun j hj => by have h1 := hl14.out; injection hj with hj; have h2 : g14 = j := hj; omega) hgB, own_far ho15 hl15.out hgB, hB.setCell (by simp; omega) _⟩
      · obtain rfl : i = n' := by omega
        have a1 : ¬ (i : Int) < i := by omega
        clear hlt hi
        have hr14 := own_rd ho14
        have hr15 := own_rd ho15
        go_wp2_with fail
        refine (number_calls at' ((i + 16 : Nat) : Int) _ (by omega) (by omega)).mono ?_
        rintro e w12 ⟨rfl, rfl⟩
        rw [hki.out]
        go_wp2_with fail
        refine (same_calls ST ST (some ⟨g14, 0, none⟩) A15 c14 c15 (i + 16) (i + 16) _ hSTl.out hSTl.out hr14 hr15 (by rw [← hSTl.out]; omega) (by rw [← hSTl.out]; omega)).mono ?_
        rintro e w13 ⟨he9, q9, hq9⟩
        rw [decide_eq_true (rfl : ST = ST)] at he9
        subst he9
        have hB9 : Below w12.heap.size w12 w13 := by rw [hq9]; exact below_drewN (Below.refl _ _) q9
        (replace hb5 := hb5.belowAll hB9; replace hb6 := hb6.belowAll hB9; replace ho13 := ho13.below hB9; replace ho14 := ho14.below hB9; replace hB := below_then hB hB.size hB9)
        clear hB9 hq9 hr14 hr15 ho15 ho16
        obtain ⟨g, cap, hv, _, hcell, hfr, hset⟩ := own_at ho14 (by rw [← hSTl.out]; omega)
        injection hv with hv1 hv2 hv3
        injection hv1 with hv1
        injection hv1 with hv1
        subst hv1
        have cx := hcell ki (by rw [← hSTl.out]; omega)
        have fx := hfr ki
        have a2 : (ki : Int) < ((i + 16 : Nat) : Int) := by omega
        clear hcell hfr hset hv2 hv3
        go_wp2_with fail
        have hb5' := hb5.setOther (a := ⟨g14, ki, none⟩) (by simp; omega) (.int .u8 ((rd ST ki + 1) % 256))
        have hb6' := hb6.setOther (a := ⟨g14, ki, none⟩) (by simp; omega) (.int .u8 ((rd ST ki + 1) % 256))
        have hr13 := own_rd (own_far (i := ki) (u := .int .u8 ((rd ST ki + 1) % 256)) ho13 hl13.out hg14)
        have hB' : Below w.heap.size w (World.setCell w13 ⟨g14, ki, none⟩ (.int .u8 ((rd ST ki + 1) % 256))) := hB.setCell (by simp; omega) _
        clear hb5 hb6 ho13 ho14 hB cx fx
        generalize World.setCell w13 ⟨g14, ki, none⟩ (.int .u8 ((rd ST ki + 1) % 256)) = w14 at *
        have hT := (show Blk w14.drew g5 23 (ints .u8 key) ∧ Blk w14.drew g6 24 (ints .u8 nonce) from ⟨hb5', hb6'⟩)
        refine wp_region_T (T := fun w' => Blk w' g5 23 (ints .u8 key) ∧ Blk w' g6 24 (ints .u8 nonce)) (by kernel_rfl) (by kernel_rfl) hT ?_
        show wpT _ _ _ _ [0, 1, 2, 3, 4, 5, 6, 7, 8, 9, 10, 11, 12, 13, 14, 15, 16, 17, 18, 19] _ _
        apply wpT_read (i := 0) rfl hT rfl -- Op.move t11
        · intro w' hT'
          simp only [List.getElem_toArray, List.getElem_cons_zero, List.getElem_cons_succ]
          go_wp2_with fail
          first | exact ⟨rfl, rfl, rfl⟩ | rfl
        apply wpT_read (i := 1) rfl hT rfl -- Op.move t108
        · intro w' hT'
          simp only [List.getElem_toArray, List.getElem_cons_zero, List.getElem_cons_succ]
          go_wp2_with fail
          first | exact ⟨rfl, rfl, rfl⟩ | rfl
        apply wpT_read (i := 2) rfl hT rfl -- Op.move t13
        · intro w' hT'
          simp only [List.getElem_toArray, List.getElem_cons_zero, List.getElem_cons_succ]
          go_wp2_with fail
          first | exact ⟨rfl, rfl, rfl⟩ | rfl
        apply wpT_read (i := 3) rfl hT rfl -- Op.move t3
        · intro w' hT'
          simp only [List.getElem_toArray, List.getElem_cons_zero, List.getElem_cons_succ]
          go_wp2_with fail
          first | exact ⟨rfl, rfl, rfl⟩ | rfl
        refine wpT_act (i := 4) rfl rfl ?_ -- Op.call { value (Operand.func 13), args := #[t110, t111], argTypes :
        simp only [List.getElem_toArray, List.getElem_cons_zero, List.getElem_cons_succ]
        go_wp2_with (first
          | (go_at_call 13; refine (same_calls b b A13 A' c13 c' i i _ HN'.out HN'.out hr13.drew (HR'.out.below hB').drew (by rw [← HN'.out]; omega) (by rw [← HN'.out]; omega)).mono ?_
             rintro e w15 ⟨he9, q9, hq9⟩
             rw [decide_eq_true (rfl : b = b)] at he9
             subst he9
             have hB15 : Below w14.drew.heap.size w14.drew w15 := by (rw [hq9]; exact below_drewN (Below.refl _ _) q9)
             clear hq9)
          | fail)
        replace hB' := below_then (below_drewN hB' 1) hB'.size hB15
        have hT : Blk w15 g5 23 (ints .u8 key) ∧ Blk w15 g6 24 (ints .u8 nonce) := ⟨hT.1.belowAll hB15, hT.2.belowAll hB15⟩
        first | refine ⟨rfl, rfl, hT, ?_⟩ | (show _ ∧ _; refine ⟨hT, ?_⟩) | skip
        apply wpT_read (i := 5) rfl hT rfl -- Op.pick t109 t112 (const (Value.bool false))
        · intro w' hT'
          simp only [List.getElem_toArray, List.getElem_cons_zero, List.getElem_cons_succ]
          go_wp2_with fail
          first | exact ⟨rfl, rfl, rfl⟩ | rfl
        apply wpT_read (i := 6) rfl hT rfl -- Op.move t113
        · intro w' hT'
          simp only [List.getElem_toArray, List.getElem_cons_zero, List.getElem_cons_succ]
          go_wp2_with fail
          first | exact ⟨rfl, rfl, rfl⟩ | rfl
        apply wpT_read (i := 7) rfl hT rfl -- Op.load 23 t5
        · intro w' hT'
          simp only [List.getElem_toArray, List.getElem_cons_zero, List.getElem_cons_succ]
          go_wp2_with (first
            | (refine load_in rfl 23 _ rfl g5 0 rfl (ints .u8 key) (fun j v hv => by rw [hT'.1.cell, Nat.zero_add]; exact hv) 32 5 arr23 (by simpa using HK.out) info23 ?_)
            | (refine load_in rfl 24 _ rfl g6 0 rfl (ints .u8 nonce) (fun j v hv => by rw [hT'.2.cell, Nat.zero_add]; exact hv) 12 5 arr24 (by simpa using HNL.out) info24 ?_)
            | fail)
          first | exact ⟨rfl, rfl, rfl⟩ | rfl
        apply wpT_read (i := 8) rfl hT rfl -- Op.load 24 t6
        · intro w' hT'
          simp only [List.getElem_toArray, List.getElem_cons_zero, List.getElem_cons_succ]
          go_wp2_with (first
            | (refine load_in rfl 23 _ rfl g5 0 rfl (ints .u8 key) (fun j v hv => by rw [hT'.1.cell, Nat.zero_add]; exact hv) 32 5 arr23 (by simpa using HK.out) info23 ?_)
            | (refine load_in rfl 24 _ rfl g6 0 rfl (ints .u8 nonce) (fun j v hv => by rw [hT'.2.cell, Nat.zero_add]; exact hv) 12 5 arr24 (by simpa using HNL.out) info24 ?_)
            | fail)
          first | exact ⟨rfl, rfl, rfl⟩ | rfl
        apply wpT_read (i := 9) rfl hT rfl -- Op.move t2
        · intro w' hT'
          simp only [List.getElem_toArray, List.getElem_cons_zero, List.getElem_cons_succ]
          go_wp2_with fail
          first | exact ⟨rfl, rfl, rfl⟩ | rfl
        apply wpT_read (i := 10) rfl hT rfl -- Op.move t3
        · intro w' hT'
          simp only [List.getElem_toArray, List.getElem_cons_zero, List.getElem_cons_succ]
          go_wp2_with fail
          first | exact ⟨rfl, rfl, rfl⟩ | rfl
        refine wpT_act (i := 11) rfl rfl ?_ -- Op.call { value (Operand.func 12), args := #[t115, t116, t117, t118]
        simp only [List.getElem_toArray, List.getElem_cons_zero, List.getElem_cons_succ]
        go_wp2_with (first
          | (go_at_call 12; refine (seal_calls key nonce ad b A A' c c' n i _ HK.out HNL.out rk rn HN.out hA (HR.out.below hB') HN'.out (HR'.out.below hB') (by rw [← HN.out]; omega) (by rw [← HN'.out]; omega)).mono ?_
             rintro e w16 ⟨v17, rfl, ho17, hB16⟩
             rw [hST.out] at ho17
             obtain ⟨A17, c17, hv17, _, _, hr17⟩ := own_parts2 ho17 hSTl.out
             subst hv17)
          | fail)
        replace hB' := below_then hB' hB'.size hB16
        have hT : Blk w16 g5 23 (ints .u8 key) ∧ Blk w16 g6 24 (ints .u8 nonce) := ⟨hT.1.belowAll hB16, hT.2.belowAll hB16⟩
        first | refine ⟨rfl, rfl, hT, ?_⟩ | (show _ ∧ _; refine ⟨hT, ?_⟩) | skip
        apply wpT_read (i := 12) rfl hT rfl -- Op.load 23 t5
        · intro w' hT'
          simp only [List.getElem_toArray, List.getElem_cons_zero, List.getElem_cons_succ]
          go_wp2_with (first
            | (refine load_in rfl 23 _ rfl g5 0 rfl (ints .u8 key) (fun j v hv => by rw [hT'.1.cell, Nat.zero_add]; exact hv) 32 5 arr23 (by simpa using HK.out) info23 ?_)
            | (refine load_in rfl 24 _ rfl g6 0 rfl (ints .u8 nonce) (fun j v hv => by rw [hT'.2.cell, Nat.zero_add]; exact hv) 12 5 arr24 (by simpa using HNL.out) info24 ?_)
            | fail)
          first | exact ⟨rfl, rfl, rfl⟩ | rfl
        apply wpT_read (i := 13) rfl hT rfl -- Op.load 24 t6
        · intro w' hT'
          simp only [List.getElem_toArray, List.getElem_cons_zero, List.getElem_cons_succ]
          go_wp2_with (first
            | (refine load_in rfl 23 _ rfl g5 0 rfl (ints .u8 key) (fun j v hv => by rw [hT'.1.cell, Nat.zero_add]; exact hv) 32 5 arr23 (by simpa using HK.out) info23 ?_)
            | (refine load_in rfl 24 _ rfl g6 0 rfl (ints .u8 nonce) (fun j v hv => by rw [hT'.2.cell, Nat.zero_add]; exact hv) 12 5 arr24 (by simpa using HNL.out) info24 ?_)
            | fail)
          first | exact ⟨rfl, rfl, rfl⟩ | rfl
        apply wpT_read (i := 14) rfl hT rfl -- Op.move t2
        · intro w' hT'
          simp only [List.getElem_toArray, List.getElem_cons_zero, List.getElem_cons_succ]
          go_wp2_with fail
          first | exact ⟨rfl, rfl, rfl⟩ | rfl
        apply wpT_read (i := 15) rfl hT rfl -- Op.move t3
        · intro w' hT'
          simp only [List.getElem_toArray, List.getElem_cons_zero, List.getElem_cons_succ]
          go_wp2_with fail
          first | exact ⟨rfl, rfl, rfl⟩ | rfl
        refine wpT_act (i := 16) rfl rfl ?_ -- Op.call { value (Operand.func 14), args := #[t120, t121, t122, t123]
        simp only [List.getElem_toArray, List.getElem_cons_zero, List.getElem_cons_succ]
        go_wp2_with (first
          | (go_at_call 14; refine (seal1_calls key nonce ad b A A' c c' n i _ HK.out HNL.out rk rn HN.out (HR.out.below hB') ra HN'.out (HR'.out.below hB') rb (by rw [← HN.out]; omega) (by rw [← HN'.out]; omega)).mono ?_
             rintro e w17 ⟨v18, rfl, ho18, hB17⟩
             rw [hST.out] at ho18
             obtain ⟨A18, c18, hv18, _, _, hr18⟩ := own_parts2 ho18 hSTl.out
             subst hv18)
          | fail)
        replace hB' := below_then hB' hB'.size hB17
        replace hr17 := hr17.below hB17
        have hT : Blk w17 g5 23 (ints .u8 key) ∧ Blk w17 g6 24 (ints .u8 nonce) := ⟨hT.1.belowAll hB17, hT.2.belowAll hB17⟩
        first | refine ⟨rfl, rfl, hT, ?_⟩ | (show _ ∧ _; refine ⟨hT, ?_⟩) | skip
        refine wpT_act (i := 17) rfl rfl ?_ -- Op.call { value (Operand.func 13), args := #[t119, t124], argTypes :
        simp only [List.getElem_toArray, List.getElem_cons_zero, List.getElem_cons_succ]
        go_wp2_with (first
          | (go_at_call 13; refine (same_calls ST ST A17 A18 c17 c18 (i + 16) (i + 16) _ hSTl.out hSTl.out hr17 hr18 (by rw [← hSTl.out]; omega) (by rw [← hSTl.out]; omega)).mono ?_
             rintro e w18 ⟨he9, q9, hq9⟩
             rw [decide_eq_true (rfl : ST = ST)] at he9
             subst he9
             have hB18 : Below w17.heap.size w17 w18 := by (rw [hq9]; exact below_drewN (Below.refl _ _) q9)
             clear hq9)
          | fail)
        replace hB' := below_then hB' hB'.size hB18
        have hT : Blk w18 g5 23 (ints .u8 key) ∧ Blk w18 g6 24 (ints .u8 nonce) := ⟨hT.1.belowAll hB18, hT.2.belowAll hB18⟩
        first | refine ⟨rfl, rfl, hT, ?_⟩ | (show _ ∧ _; refine ⟨hT, ?_⟩) | skip
        apply wpT_read (i := 18) rfl hT rfl -- Op.pick t114 t125 (const (Value.bool false))
        · intro w' hT'
          simp only [List.getElem_toArray, List.getElem_cons_zero, List.getElem_cons_succ]
          go_wp2_with fail
          first | exact ⟨rfl, rfl, rfl⟩ | rfl
        apply wpT_read (i := 19) rfl hT rfl -- Op.assign t126
        · intro w' hT'
          simp only [List.getElem_toArray, List.getElem_cons_zero, List.getElem_cons_succ]
          go_wp2_with fail
          first | exact ⟨rfl, rfl, rfl⟩ | rfl
        refine wpT_end ?_
        try dsimp only

        go_wp2_with fail
        go_ret
        exact ⟨rfl, hB'⟩
end Go.Proofs.YtpmmmbilfblcpaaDoor
