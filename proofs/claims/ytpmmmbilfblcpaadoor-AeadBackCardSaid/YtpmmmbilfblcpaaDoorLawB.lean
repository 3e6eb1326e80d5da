/- The law AeadBack. -/
import Derived.Test.YtpmmmbilfblcpaaDoorOpn
import Derived.Test.YtpmmmbilfblcpaaDoorNum
import Derived.Test.YtpmmmbilfblcpaaDoorInv
namespace Go.Proofs.YtpmmmbilfblcpaaDoor
open Go.RowKit Go.Cour
theorem bytesOk_snoc {xs : List Int} (h : bytesOk xs) : bytesOk (xs ++ [0]) := by
  intro i
  unfold rd
  rw [List.getD_eq_getElem?_getD]
  by_cases hi : i < xs.length
  · rw [List.getElem?_append_left hi]; have := h i; unfold rd at this; rwa [List.getD_eq_getElem?_getD] at this
  · rw [List.getElem?_append_right (by omega)]
    cases i - xs.length with
    | zero => simp
    | succ k => simp
theorem own_apart {w : World} {B : Nat} {e : TypeId} {k : IntKind} {v u : Value} {xs : List Int} (h : Own w B e k v xs) (hu : ∀ j, u.ownBlock = some j → j < B) : v.ownBlock = none ∨ v.ownBlock ≠ u.ownBlock := by
  cases hv : v.ownBlock with
  | none => exact .inl rfl
  | some j => exact .inr fun he => by have h1 := h.base_le j hv; have h2 := hu j he.symm; omega
theorem zeroKeyB : ((Tryd.prog.info? 23).bind (·.zero)).map (·.cells) = some (ints .u8 (List.replicate 32 0)).toArray := by kernel_rfl
theorem zeroN12B : ((Tryd.prog.info? 24).bind (·.zero)).map (·.cells) = some (ints .u8 (List.replicate 12 0)).toArray := by kernel_rfl
set_option maxHeartbeats 4000000 in
set_option maxRecDepth 100000 in
theorem aeadBack_calls (key nonce ad b : List Int) (A A' : Option Addr) (c c' n n' : Nat) (which at' : Int) {w : World} {P : Nat → Addr} (hE : Errs w P) (hk : key.length = 32) (hnl : nonce.length = 12) (rk : bytesOk key) (rn : bytesOk nonce)
    (hn : n = ad.length) (hA : A = none → c = 0) (hr : Rd w A .u8 ad) (ra : bytesOk ad) (hn' : n' = b.length) (hc' : n' ≤ c') (hr' : Rd w A' .u8 b) (rb : bytesOk b) (hm : n ≤ 9223372036854775807) (hm' : n' ≤ 9223372036854775807) :
    Calls Tryd.prog 4 #[.agg (ints .u8 key).toArray, .agg (ints .u8 nonce).toArray, .slice A n c, .slice A' n' c', .int .i64 which, .int .i64 at'] w fun e w' => e = .returned (.bool true) ∧ Below w.heap.size w w' := by
  have HN := hid hn
  have HN' := hid hn'
  have HR := hid hr
  have HR' := hid hr'
  have HK := hid hk
  have HNL := hid hnl
  clear hn hn' hr hr' hk hnl
  by_cases hl : 200 < n ∨ 200 < n'
  · by_cases hl1 : 200 < n
    · have hl2 : (200 : Int) < n := by omega
      clear hl
      go_enter Tryd.func4, Tryd.ntmps4
      go_wp2_with (first
        | (refine box_blk rfl 23 _ rfl _ rfl (ints .u8 key) rfl ?_; intro g4 w1 hg4 hb4 hB1 hs1)
        | (refine box_blk rfl 24 _ rfl _ rfl (ints .u8 nonce) rfl ?_; intro g5 w2 hg5 hb5 hB2 hs2; have hB := below_then hB1 hB1.size hB2; clear hg4 hg5 hs1 hs2)
        | (go_at_call 11; refine (first7_calls (hE.below hB)).mono ?_; rintro e w3 ⟨rfl, hB3⟩)
        | fail)
      go_ret
      exact ⟨rfl, below_then hB hB.size hB3⟩
    · have hl2 : ¬ (200 : Int) < n := by omega
      have hl3 : (200 : Int) < n' := by omega
      clear hl
      go_enter Tryd.func4, Tryd.ntmps4
      go_wp2_with (first
        | (refine box_blk rfl 23 _ rfl _ rfl (ints .u8 key) rfl ?_; intro g4 w1 hg4 hb4 hB1 hs1)
        | (refine box_blk rfl 24 _ rfl _ rfl (ints .u8 nonce) rfl ?_; intro g5 w2 hg5 hb5 hB2 hs2; have hB := below_then hB1 hB1.size hB2; clear hg4 hg5 hs1 hs2)
        | (go_at_call 11; refine (first7_calls (hE.below hB)).mono ?_; rintro e w3 ⟨rfl, hB3⟩)
        | fail)
      go_ret
      exact ⟨rfl, below_then hB hB.size hB3⟩
  · have hl2 : ¬ (200 : Int) < n := by omega
    have hl3 : ¬ (200 : Int) < n' := by omega
    have hn2 : n ≤ 200 := by omega
    have hn2' : n' ≤ 200 := by omega
    clear hl hm hm'
    obtain ⟨ST, hST⟩ : ∃ ST, Hd (sealText key nonce ad b = ST) := ⟨_, ⟨rfl⟩⟩
    have hSTl : Hd (n' + 16 = ST.length) := hid (by rw [← hST.out, sealText_length, ← HN'.out])
    have rST : bytesOk ST := by rw [← hST.out]; exact sealText_ok _ _ _ _ rb
    have hOP : Hd (openOf key nonce ad ST = .inl b) := hid (by rw [← hST.out]; exact open_seal _ _ _ _ rb)
    have hnn := nil_neq
    obtain ⟨q, hq, hq4⟩ : ∃ q : Nat, Hd (which % 4 = (q : Int)) ∧ q < 4 := ⟨(which % 4).toNat, hid (by omega), by omega⟩
    go_enter Tryd.func4, Tryd.ntmps4
    go_wp2_with (first
      | (refine box_blk rfl 23 _ rfl _ rfl (ints .u8 key) rfl ?_; intro g6 w1 hg6 hb6 hB1 hs1)
      | (refine box_blk rfl 24 _ rfl _ rfl (ints .u8 nonce) rfl ?_; intro g7 w2 hg7 hb7 hB2 hs2
         replace hb6 := hb6.belowAll hB2
         have hB := below_then hB1 hB1.size hB2
         clear hB1 hB2 hg6 hg7 hs1 hs2)
      | (go_at_call 11; refine (first7_calls (hE.below hB)).mono ?_; rintro e w3 ⟨rfl, hB3⟩
         (replace hb6 := hb6.belowAll hB3; replace hb7 := hb7.belowAll hB3; replace hB := below_then hB hB.size hB3)
         clear hB3)
      | (refine load_blk rfl 23 _ rfl g6 rfl 23 _ hb6 32 5 arr23 (by simpa using HK.out) info23 ?_)
      | (refine load_blk rfl 24 _ rfl g7 rfl 24 _ hb7 12 5 arr24 (by simpa using HNL.out) info24 ?_)
      | (have hx := ho20; clear hx; go_at_call 15; refine (bytes_calls ST A15 c15 (n' + 16) _ hSTl.out hr15 (by omega)).mono ?_
         rintro e w9 ⟨v21, rfl, ho21, hB9⟩
         have hG21 : Hd (g18 < w8.heap.size ∧ g19 < w8.heap.size ∧ (∀ j, v20.ownBlock = some j → j < w8.heap.size) ∧ w.heap.size ≤ w8.heap.size ∧ w8.heap.size ≤ w9.heap.size) := hid ⟨hb18.lt, hb19.lt, own_lt ho20, hB.size, hB9.size⟩
         (replace hb18 := hb18.belowAll hB9; replace hb19 := hb19.belowAll hB9; replace ho20 := ho20.below hB9; replace hB := below_then hB hB.size hB9)
         clear hB9 hr15)
      | (have hx := hr16; clear hx; go_at_call 15; refine (bytes_calls ad A c n _ HN.out (HR.out.below hB) (by omega)).mono ?_
         rintro e w8 ⟨v20, rfl, ho20, hB8⟩
         have hG20 : Hd (g18 < wd.heap.size ∧ g19 < wd.heap.size ∧ w.heap.size ≤ wd.heap.size ∧ wd.heap.size ≤ w8.heap.size) := hid ⟨hb18.lt, hb19.lt, hB.size, hB8.size⟩
         (replace hb18 := hb18.belowAll hB8; replace hb19 := hb19.belowAll hB8; replace hr15 := hr15.below hB8; replace hB := below_then hB hB.size hB8)
         clear hB8 hr16)
      | (go_at_call 15; refine (bytes_calls b A' c' n' _ HN'.out (HR'.out.below hB) (by omega)).mono ?_
         rintro e w4 ⟨v14, rfl, ho14, hB4⟩
         obtain ⟨A14, c14, hv14, _, _, hr14⟩ := id ho14.parts
         rw [← HN'.out] at hv14
         subst hv14
         (replace hb6 := hb6.belowAll hB4; replace hb7 := hb7.belowAll hB4; replace hB := below_then hB hB.size hB4)
         clear hB4 ho14)
      | (go_at_call 12; refine (seal_calls key nonce ad b A A' c c' n n' _ HK.out HNL.out rk rn HN.out hA (HR.out.below hB) HN'.out (HR'.out.below hB) (by rw [← HN.out]; omega) (by rw [← HN'.out]; omega)).mono ?_
         rintro e w5 ⟨v15, rfl, ho15, hB5⟩
         rw [hST.out] at ho15
         obtain ⟨A15, c15, hv15, hc15, _, hr15⟩ := id ho15.parts
         rw [← hSTl.out] at hv15 hc15
         subst hv15
         (replace hb6 := hb6.belowAll hB5; replace hb7 := hb7.belowAll hB5; replace hr14 := hr14.below hB5; replace hB := below_then hB hB.size hB5)
         clear hB5 ho15)
      | (go_at_call 17; refine (open_calls key nonce ad ST A A15 c c15 n (n' + 16) (hE.two.below hB) HK.out HNL.out rk rn HN.out hA (HR.out.below hB) hSTl.out hc15 hr15 rST (by rw [← HN.out]; omega) (by rw [← hSTl.out]; omega)).mono ?_
         rintro e w6 ⟨v16, er, rfl, hop, hB6⟩
         rw [hOP.out] at hop
         obtain ⟨her, ho16⟩ := hop
         subst her
         obtain ⟨A16, c16, hv16, _, _, hr16⟩ := id ho16.parts
         rw [← HN'.out] at hv16
         subst hv16
         (replace hb6 := hb6.belowAll hB6; replace hb7 := hb7.belowAll hB6; replace hr14 := hr14.below hB6; replace hr15 := hr15.below hB6; replace hB := below_then hB hB.size hB6)
         clear hB6 ho16)
      | (have hx := hB67; clear hx; go_at_call 13; refine (same_calls b b A' A14 c' c14 n' n' _ HN'.out HN'.out (HR'.out.below hB) hr14 (by rw [← HN'.out]; omega) (by rw [← HN'.out]; omega)).mono ?_
         rintro e w7 ⟨he7, qd, hqd⟩
         rw [decide_eq_true (rfl : b = b)] at he7
         subst he7
         have hB7 := below_drewN (Below.refl w6'.heap.size w6') qd
         rw [← hqd] at hB7
         (replace hb6 := hb6.belowAll hB7; replace hb7 := hb7.belowAll hB7; replace hr15 := hr15.below hB7; replace hr16 := hr16.below hB7; replace hB := below_then hB hB.size hB7)
         clear hB7 hqd hr14 hB67)
      | (go_at_call 13; refine (same_calls b b A16 A' c16 c' n' n' _ HN'.out HN'.out hr16 (HR'.out.below hB) (by rw [← HN'.out]; omega) (by rw [← HN'.out]; omega)).mono ?_
         rintro e w6' ⟨he7, qd, hqd⟩
         rw [decide_eq_true (rfl : b = b)] at he7
         subst he7
         have hB67 := below_drewN (Below.refl w6.heap.size w6) qd
         rw [← hqd] at hB67
         (replace hb6 := hb6.belowAll hB67; replace hb7 := hb7.belowAll hB67; replace hr14 := hr14.below hB67; replace hr15 := hr15.below hB67; replace hr16 := hr16.below hB67; replace hB := below_then hB hB.size hB67)
         clear hqd)
      | (have hx := hb18; clear hx; refine alloc_blk rfl 24 rfl _ rfl (ints .u8 (List.replicate 12 0)) zeroN12B ?_; intro g19 wc hg19 hb19 hBc hsc)
      | (refine alloc_blk rfl 23 rfl _ rfl (ints .u8 (List.replicate 32 0)) zeroKeyB ?_; intro g18 wa hg18 hb18 hBa hsa)
      | (have hx := hb19; clear hx; refine store_blk rfl 24 _ _ rfl g19 (ints .u8 nonce) rfl rfl 24 _ hb19 12 info24 (by simpa using HNL.out) (by simp) (ints_one _ _) ?_
         replace hb19 := hb19.setRow (ints .u8 nonce)
         have hBd := below_setRow (g := g19) hBc (by omega) (ints .u8 nonce).toArray
         have hG19 : Hd (g18 < g19 ∧ g6 < g19 ∧ g7 < g19 ∧ w.heap.size ≤ g19) := hid (by have := hb18.lt; have := hb6.lt; have := hb7.lt; have := hB.size; omega)
         generalize World.setRow wc g19 _ = wd at *
         (replace hb18 := hb18.belowAll hBd; replace hr15 := hr15.below hBd; replace hr16 := hr16.below hBd; replace hB := below_then hB hB.size hBd)
         clear hBc hg19 hsc hBd)
      | (refine store_blk rfl 23 _ _ rfl g18 (ints .u8 key) rfl rfl 23 _ hb18 32 info23 (by simpa using HK.out) (by simp) (ints_one _ _) ?_
         replace hb18 := hb18.setRow (ints .u8 key)
         have hBb := below_setRow (g := g18) hBa (by omega) (ints .u8 key).toArray
         have hG18 : Hd (g6 < g18 ∧ g7 < g18 ∧ w.heap.size ≤ g18) := hid (by have := hb6.lt; have := hb7.lt; have := hB.size; omega)
         generalize World.setRow wa g18 _ = wb at *
         (replace hb6 := hb6.belowAll hBb; replace hb7 := hb7.belowAll hBb; replace hr15 := hr15.below hBb; replace hr16 := hr16.below hBb; replace hB := below_then hB hB.size hBb)
         clear hBa hg18 hsa hBb)
      | fail)
    clear hb6 hb7
    have hq5 : q = 0 ∨ q = 1 ∨ q = 2 ∨ q = 3 := by omega
    rcases hq5 with rfl | rfl | rfl | rfl
    · -- 0
      obtain ⟨ki, hki, hkl⟩ : ∃ ki : Nat, Hd (at' % ((n' + 16 : Nat) : Int) = (ki : Int)) ∧ ki < n' + 16 := ⟨(at' % ((n' + 16 : Nat) : Int)).toNat, hid (by have := Int.emod_nonneg at' (show ((n' + 16 : Nat) : Int) ≠ (0 : Int) by omega); omega), by have := Int.emod_nonneg at' (show ((n' + 16 : Nat) : Int) ≠ (0 : Int) by omega); have := Int.emod_lt_of_pos at' (show (0 : Int) < ((n' + 16 : Nat) : Int) by omega); omega⟩
      obtain ⟨g21, c21, hv21, hg21, hcell, hfr, hset⟩ := own_at ho21 (by rw [← hSTl.out]; omega)
      have hc21 : n' + 16 ≤ c21 := by obtain ⟨_, _, hq, hq2, _, _⟩ := ho21.slice; rw [hv21] at hq; injection hq with _ _ hq3; rw [hq3, hSTl.out]; exact hq2
      rw [← hSTl.out] at hv21 hcell
      subst hv21
      have a1 : (ki : Int) < ((n' + 16 : Nat) : Int) := by omega
      have cx := hcell ki hkl
      have fx := hfr ki
      clear hcell hfr
      obtain ⟨X, hX⟩ : ∃ X, Hd ((rd ST ki + 1) % 256 = X) := ⟨_, ⟨rfl⟩⟩
      obtain ⟨D, hD⟩ : ∃ D, Hd (ST.set ki X = D) := ⟨_, ⟨rfl⟩⟩
      have hDl : Hd (n' + 16 = D.length) := hid (by rw [← hD.out, List.length_set]; exact hSTl.out)
      have rD : bytesOk D := by rw [← hD.out]; exact bytesOk_set rST _ _ (by rw [← hX.out]; omega)
      obtain ⟨A20, c20, hv20, _, hA20, hr20⟩ := id ho20.parts
      rw [← HN.out] at hv20
      subst hv20
      obtain ⟨O2, hO2⟩ : ∃ O2, Hd (openOf key nonce ad D = O2) := ⟨_, ⟨rfl⟩⟩
      have hne2 : Hd (∀ j, O2 = .inr j → j = 8) := hid (fun j hj => by
        have h1 := hO2.out; unfold openOf at h1; rw [if_neg (by rw [← hDl.out]; omega)] at h1; rw [hj] at h1; split at h1
        · cases h1
        · injection h1 with h1; exact h1.symm)
      refine (number_calls which 4 _ (by omega) (by omega)).mono ?_
      rintro e w10 ⟨rfl, rfl⟩
      rw [hq.out]
      rcases O2 with xs | j
      · skip
        go_wp2_with (first
          | (go_at_call 16; refine (number_calls at' ((n' + 16 : Nat) : Int) _ (by omega) (by omega)).mono ?_; rintro e w10 ⟨rfl, rfl⟩; rw [hki.out])
          | (have hx := hset; clear hx
             have hg1 := hG18.out; have hg2 := hG19.out; have hg3 := hG20.out; have hg4 := hG21.out
             replace hb18 := hb18.setOther (a := ⟨g21, ki, none⟩) (by simp; omega) (.int .u8 ((rd ST ki + 1) % 256))
             replace hb19 := hb19.setOther (a := ⟨g21, ki, none⟩) (by simp; omega) (.int .u8 ((rd ST ki + 1) % 256))
             have hr20 := own_rd (own_far (i := ki) (u := .int .u8 ((rd ST ki + 1) % 256)) ho20 hg4.2.2.1 hg21)
             have hr21 := own_rd (hset ki ((rd ST ki + 1) % 256))
             replace hB : Below w.heap.size w (World.setCell w10 ⟨g21, ki, none⟩ (.int .u8 ((rd ST ki + 1) % 256))) := hB.setCell (by simp; omega) _
             rw [hX.out, hD.out] at hr21
             clear hset cx fx ho20 ho21
             rw [hX.out] at *
             generalize World.setCell w10 ⟨g21, ki, none⟩ (.int .u8 X) = wt at *
             refine load_blk rfl 23 _ rfl g18 rfl 23 _ hb18 32 5 arr23 (by simpa using HK.out) info23 ?_)
          | (refine load_blk rfl 23 _ rfl g18 rfl 23 _ hb18 32 5 arr23 (by simpa using HK.out) info23 ?_)
          | (refine load_blk rfl 24 _ rfl g19 rfl 24 _ hb19 12 5 arr24 (by simpa using HNL.out) info24 ?_)
          | (go_at_call 17; refine (open_calls key nonce ad D A20 (some ⟨g21, 0, none⟩) c20 c21 n (n' + 16) (hE.two.below hB) HK.out HNL.out rk rn HN.out hA20 hr20 hDl.out hc21 hr21 rD (by rw [← HN.out]; omega) (by rw [← hDl.out]; omega)).mono ?_
             rintro e wu ⟨v25, er, rfl, hop, hBu⟩
             rw [hO2.out] at hop
             obtain ⟨her, hv25⟩ := hop
             subst her
             obtain ⟨A25, c25, hv25, _, _, _⟩ := id hv25.parts
             subst hv25
             (replace hb18 := hb18.belowAll hBu; replace hb19 := hb19.belowAll hBu; replace hr20 := hr20.below hBu; replace hr21 := hr21.below hBu; replace hB := below_then hB hB.size hBu))
          | (go_at_call 18; refine (open1_calls key nonce ad D A20 (some ⟨g21, 0, none⟩) c20 c21 n (n' + 16) _ HK.out HNL.out rk rn HN.out hr20 ra hDl.out hc21 hr21 rD (by rw [← HN.out]; omega) (by rw [← hDl.out]; omega)).mono ?_
             rintro e wv ⟨v27, k28, rfl, hop, hBv⟩
             rw [hO2.out] at hop
             obtain ⟨hk28, hv27⟩ := hop
             subst hk28
             (replace hB := below_then hB hB.size hBv))
          | fail)
        go_ret
        exact ⟨rfl, hB⟩
      · obtain rfl := hne2.out j rfl
        have hbe : ((101 : Int) + ((8 : Nat) : Int) == 109) = true := by decide
        go_wp2_with (first
          | (go_at_call 16; refine (number_calls at' ((n' + 16 : Nat) : Int) _ (by omega) (by omega)).mono ?_; rintro e w10 ⟨rfl, rfl⟩; rw [hki.out])
          | (have hx := hset; clear hx
             have hg1 := hG18.out; have hg2 := hG19.out; have hg3 := hG20.out; have hg4 := hG21.out
             replace hb18 := hb18.setOther (a := ⟨g21, ki, none⟩) (by simp; omega) (.int .u8 ((rd ST ki + 1) % 256))
             replace hb19 := hb19.setOther (a := ⟨g21, ki, none⟩) (by simp; omega) (.int .u8 ((rd ST ki + 1) % 256))
             have hr20 := own_rd (own_far (i := ki) (u := .int .u8 ((rd ST ki + 1) % 256)) ho20 hg4.2.2.1 hg21)
             have hr21 := own_rd (hset ki ((rd ST ki + 1) % 256))
             replace hB : Below w.heap.size w (World.setCell w10 ⟨g21, ki, none⟩ (.int .u8 ((rd ST ki + 1) % 256))) := hB.setCell (by simp; omega) _
             rw [hX.out, hD.out] at hr21
             clear hset cx fx ho20 ho21
             rw [hX.out] at *
             generalize World.setCell w10 ⟨g21, ki, none⟩ (.int .u8 X) = wt at *
             refine load_blk rfl 23 _ rfl g18 rfl 23 _ hb18 32 5 arr23 (by simpa using HK.out) info23 ?_)
          | (refine load_blk rfl 23 _ rfl g18 rfl 23 _ hb18 32 5 arr23 (by simpa using HK.out) info23 ?_)
          | (refine load_blk rfl 24 _ rfl g19 rfl 24 _ hb19 12 5 arr24 (by simpa using HNL.out) info24 ?_)
          | (go_at_call 17; refine (open_calls key nonce ad D A20 (some ⟨g21, 0, none⟩) c20 c21 n (n' + 16) (hE.two.below hB) HK.out HNL.out rk rn HN.out hA20 hr20 hDl.out hc21 hr21 rD (by rw [← HN.out]; omega) (by rw [← hDl.out]; omega)).mono ?_
             rintro e wu ⟨v25, er, rfl, hop, hBu⟩
             rw [hO2.out] at hop
             obtain ⟨her, hv25⟩ := hop
             subst her
             subst hv25
             (replace hb18 := hb18.belowAll hBu; replace hb19 := hb19.belowAll hBu; replace hr20 := hr20.below hBu; replace hr21 := hr21.below hBu; replace hB := below_then hB hB.size hBu))
          | (go_at_call 18; refine (open1_calls key nonce ad D A20 (some ⟨g21, 0, none⟩) c20 c21 n (n' + 16) _ HK.out HNL.out rk rn HN.out hr20 ra hDl.out hc21 hr21 rD (by rw [← HN.out]; omega) (by rw [← hDl.out]; omega)).mono ?_
             rintro e wv ⟨v27, k28, rfl, hop, hBv⟩
             rw [hO2.out] at hop
             obtain ⟨hk28, hv27⟩ := hop
             subst hk28
             (replace hB := below_then hB hB.size hBv))
          | (go_at_call 19; refine (is_err_calls 109 (hE.below hB) 8 (by omega)).mono ?_; rintro e wz ⟨he3, hBz⟩; rw [hbe] at he3; subst he3; (replace hB := below_then hB hB.size hBz))
          | fail)
        go_ret
        exact ⟨rfl, hB⟩
    · -- 1
      obtain ⟨ki, hki, hkl⟩ : ∃ ki : Nat, Hd (at' % 32 = (ki : Int)) ∧ ki < 32 := ⟨(at' % 32).toNat, hid (by have := Int.emod_nonneg at' (show 32 ≠ (0 : Int) by omega); omega), by have := Int.emod_nonneg at' (show 32 ≠ (0 : Int) by omega); have := Int.emod_lt_of_pos at' (show (0 : Int) < 32 by omega); omega⟩
      obtain ⟨A21, c21, hv21, hc21, _, hr21⟩ := id ho21.parts
      rw [← hSTl.out] at hv21 hc21
      subst hv21
      have a1 : (ki : Int) < 32 := by omega
      have cx := hb18.cellI ki (by rw [HK.out]; omega)
      have fx := hb18.frozen ki
      obtain ⟨X, hX⟩ : ∃ X, Hd (bits .xor .u8 (rd key ki) 4 = X) := ⟨_, ⟨rfl⟩⟩
      obtain ⟨D, hD⟩ : ∃ D, Hd (key.set ki X = D) := ⟨_, ⟨rfl⟩⟩
      have hDl : Hd (D.length = 32) := hid (by rw [← hD.out, List.length_set]; exact HK.out)
      have rD : bytesOk D := by rw [← hD.out]; exact bytesOk_set rk _ _ (by rw [← hX.out]; exact xor_u8_bound _ _ (rk _) (by omega))
      obtain ⟨A20, c20, hv20, _, hA20, hr20⟩ := id ho20.parts
      rw [← HN.out] at hv20
      subst hv20
      obtain ⟨O2, hO2⟩ : ∃ O2, Hd (openOf D nonce ad ST = O2) := ⟨_, ⟨rfl⟩⟩
      have hne2 : Hd (∀ j, O2 = .inr j → j = 8) := hid (fun j hj => by
        have h1 := hO2.out; unfold openOf at h1; rw [if_neg (by rw [← hSTl.out]; omega)] at h1; rw [hj] at h1; split at h1
        · cases h1
        · injection h1 with h1; exact h1.symm)
      refine (number_calls which 4 _ (by omega) (by omega)).mono ?_
      rintro e w10 ⟨rfl, rfl⟩
      rw [hq.out]
      rcases O2 with xs | j
      · skip
        go_wp2_with (first
          | (go_at_call 16; refine (number_calls at' 32 _ (by omega) (by omega)).mono ?_; rintro e w10 ⟨rfl, rfl⟩; rw [hki.out])
          | (have hx := cx; clear hx
             have hg1 := hG18.out; have hg2 := hG19.out; have hg3 := hG20.out; have hg4 := hG21.out
             replace hb18 := hb18.setI ki (bits .xor .u8 (rd key ki) 4)
             replace hb19 := hb19.setOther (a := ⟨g18, ki, none⟩) (by simp; omega) (.int .u8 (bits .xor .u8 (rd key ki) 4))
             have hr20 := own_rd (ho20.setOther (a := ⟨g18, ki, none⟩) (ho20.ne_lt hg3.1).symm (.int .u8 (bits .xor .u8 (rd key ki) 4)))
             have hr21 := own_rd (ho21.setOther (a := ⟨g18, ki, none⟩) (ho21.ne_lt hg4.1).symm (.int .u8 (bits .xor .u8 (rd key ki) 4)))
             replace hB : Below w.heap.size w (World.setCell w10 ⟨g18, ki, none⟩ (.int .u8 (bits .xor .u8 (rd key ki) 4))) := hB.setCell (by simp; omega) _
             rw [hX.out, hD.out] at hb18
             clear cx fx ho20 ho21
             rw [hX.out] at *
             generalize World.setCell w10 ⟨g18, ki, none⟩ (.int .u8 X) = wt at *
             refine load_blk rfl 23 _ rfl g18 rfl 23 _ hb18 32 5 arr23 (by simpa using hDl.out) info23 ?_)
          | (refine load_blk rfl 23 _ rfl g18 rfl 23 _ hb18 32 5 arr23 (by simpa using hDl.out) info23 ?_)
          | (refine load_blk rfl 24 _ rfl g19 rfl 24 _ hb19 12 5 arr24 (by simpa using HNL.out) info24 ?_)
          | (go_at_call 17; refine (open_calls D nonce ad ST A20 A21 c20 c21 n (n' + 16) (hE.two.below hB) hDl.out HNL.out rD rn HN.out hA20 hr20 hSTl.out hc21 hr21 rST (by rw [← HN.out]; omega) (by rw [← hSTl.out]; omega)).mono ?_
             rintro e wu ⟨v25, er, rfl, hop, hBu⟩
             rw [hO2.out] at hop
             obtain ⟨her, hv25⟩ := hop
             subst her
             obtain ⟨A25, c25, hv25, _, _, _⟩ := id hv25.parts
             subst hv25
             (replace hb18 := hb18.belowAll hBu; replace hb19 := hb19.belowAll hBu; replace hr20 := hr20.below hBu; replace hr21 := hr21.below hBu; replace hB := below_then hB hB.size hBu))
          | (go_at_call 18; refine (open1_calls D nonce ad ST A20 A21 c20 c21 n (n' + 16) _ hDl.out HNL.out rD rn HN.out hr20 ra hSTl.out hc21 hr21 rST (by rw [← HN.out]; omega) (by rw [← hSTl.out]; omega)).mono ?_
             rintro e wv ⟨v27, k28, rfl, hop, hBv⟩
             rw [hO2.out] at hop
             obtain ⟨hk28, hv27⟩ := hop
             subst hk28
             (replace hB := below_then hB hB.size hBv))
          | fail)
        go_ret
        exact ⟨rfl, hB⟩
      · obtain rfl := hne2.out j rfl
        have hbe : ((101 : Int) + ((8 : Nat) : Int) == 109) = true := by decide
        go_wp2_with (first
          | (go_at_call 16; refine (number_calls at' 32 _ (by omega) (by omega)).mono ?_; rintro e w10 ⟨rfl, rfl⟩; rw [hki.out])
          | (have hx := cx; clear hx
             have hg1 := hG18.out; have hg2 := hG19.out; have hg3 := hG20.out; have hg4 := hG21.out
             replace hb18 := hb18.setI ki (bits .xor .u8 (rd key ki) 4)
             replace hb19 := hb19.setOther (a := ⟨g18, ki, none⟩) (by simp; omega) (.int .u8 (bits .xor .u8 (rd key ki) 4))
             have hr20 := own_rd (ho20.setOther (a := ⟨g18, ki, none⟩) (ho20.ne_lt hg3.1).symm (.int .u8 (bits .xor .u8 (rd key ki) 4)))
             have hr21 := own_rd (ho21.setOther (a := ⟨g18, ki, none⟩) (ho21.ne_lt hg4.1).symm (.int .u8 (bits .xor .u8 (rd key ki) 4)))
             replace hB : Below w.heap.size w (World.setCell w10 ⟨g18, ki, none⟩ (.int .u8 (bits .xor .u8 (rd key ki) 4))) := hB.setCell (by simp; omega) _
             rw [hX.out, hD.out] at hb18
             clear cx fx ho20 ho21
             rw [hX.out] at *
             generalize World.setCell w10 ⟨g18, ki, none⟩ (.int .u8 X) = wt at *
             refine load_blk rfl 23 _ rfl g18 rfl 23 _ hb18 32 5 arr23 (by simpa using hDl.out) info23 ?_)
          | (refine load_blk rfl 23 _ rfl g18 rfl 23 _ hb18 32 5 arr23 (by simpa using hDl.out) info23 ?_)
          | (refine load_blk rfl 24 _ rfl g19 rfl 24 _ hb19 12 5 arr24 (by simpa using HNL.out) info24 ?_)
          | (go_at_call 17; refine (open_calls D nonce ad ST A20 A21 c20 c21 n (n' + 16) (hE.two.below hB) hDl.out HNL.out rD rn HN.out hA20 hr20 hSTl.out hc21 hr21 rST (by rw [← HN.out]; omega) (by rw [← hSTl.out]; omega)).mono ?_
             rintro e wu ⟨v25, er, rfl, hop, hBu⟩
             rw [hO2.out] at hop
             obtain ⟨her, hv25⟩ := hop
             subst her
             subst hv25
             (replace hb18 := hb18.belowAll hBu; replace hb19 := hb19.belowAll hBu; replace hr20 := hr20.below hBu; replace hr21 := hr21.below hBu; replace hB := below_then hB hB.size hBu))
          | (go_at_call 18; refine (open1_calls D nonce ad ST A20 A21 c20 c21 n (n' + 16) _ hDl.out HNL.out rD rn HN.out hr20 ra hSTl.out hc21 hr21 rST (by rw [← HN.out]; omega) (by rw [← hSTl.out]; omega)).mono ?_
             rintro e wv ⟨v27, k28, rfl, hop, hBv⟩
             rw [hO2.out] at hop
             obtain ⟨hk28, hv27⟩ := hop
             subst hk28
             (replace hB := below_then hB hB.size hBv))
          | (go_at_call 19; refine (is_err_calls 109 (hE.below hB) 8 (by omega)).mono ?_; rintro e wz ⟨he3, hBz⟩; rw [hbe] at he3; subst he3; (replace hB := below_then hB hB.size hBz))
          | fail)
        go_ret
        exact ⟨rfl, hB⟩
    · -- 2
      obtain ⟨ki, hki, hkl⟩ : ∃ ki : Nat, Hd (at' % 12 = (ki : Int)) ∧ ki < 12 := ⟨(at' % 12).toNat, hid (by have := Int.emod_nonneg at' (show 12 ≠ (0 : Int) by omega); omega), by have := Int.emod_nonneg at' (show 12 ≠ (0 : Int) by omega); have := Int.emod_lt_of_pos at' (show (0 : Int) < 12 by omega); omega⟩
      obtain ⟨A21, c21, hv21, hc21, _, hr21⟩ := id ho21.parts
      rw [← hSTl.out] at hv21 hc21
      subst hv21
      have a1 : (ki : Int) < 12 := by omega
      have cx := hb19.cellI ki (by rw [HNL.out]; omega)
      have fx := hb19.frozen ki
      obtain ⟨X, hX⟩ : ∃ X, Hd (bits .xor .u8 (rd nonce ki) 4 = X) := ⟨_, ⟨rfl⟩⟩
      obtain ⟨D, hD⟩ : ∃ D, Hd (nonce.set ki X = D) := ⟨_, ⟨rfl⟩⟩
      have hDl : Hd (D.length = 12) := hid (by rw [← hD.out, List.length_set]; exact HNL.out)
      have rD : bytesOk D := by rw [← hD.out]; exact bytesOk_set rn _ _ (by rw [← hX.out]; exact xor_u8_bound _ _ (rn _) (by omega))
      obtain ⟨A20, c20, hv20, _, hA20, hr20⟩ := id ho20.parts
      rw [← HN.out] at hv20
      subst hv20
      obtain ⟨O2, hO2⟩ : ∃ O2, Hd (openOf key D ad ST = O2) := ⟨_, ⟨rfl⟩⟩
      have hne2 : Hd (∀ j, O2 = .inr j → j = 8) := hid (fun j hj => by
        have h1 := hO2.out; unfold openOf at h1; rw [if_neg (by rw [← hSTl.out]; omega)] at h1; rw [hj] at h1; split at h1
        · cases h1
        · injection h1 with h1; exact h1.symm)
      refine (number_calls which 4 _ (by omega) (by omega)).mono ?_
      rintro e w10 ⟨rfl, rfl⟩
      rw [hq.out]
      rcases O2 with xs | j
      · skip
        go_wp2_with (first
          | (go_at_call 16; refine (number_calls at' 12 _ (by omega) (by omega)).mono ?_; rintro e w10 ⟨rfl, rfl⟩; rw [hki.out])
          | (have hx := cx; clear hx
             have hg1 := hG18.out; have hg2 := hG19.out; have hg3 := hG20.out; have hg4 := hG21.out
             replace hb19 := hb19.setI ki (bits .xor .u8 (rd nonce ki) 4)
             replace hb18 := hb18.setOther (a := ⟨g19, ki, none⟩) (by simp; omega) (.int .u8 (bits .xor .u8 (rd nonce ki) 4))
             have hr20 := own_rd (ho20.setOther (a := ⟨g19, ki, none⟩) (ho20.ne_lt hg3.2.1).symm (.int .u8 (bits .xor .u8 (rd nonce ki) 4)))
             have hr21 := own_rd (ho21.setOther (a := ⟨g19, ki, none⟩) (ho21.ne_lt hg4.2.1).symm (.int .u8 (bits .xor .u8 (rd nonce ki) 4)))
             replace hB : Below w.heap.size w (World.setCell w10 ⟨g19, ki, none⟩ (.int .u8 (bits .xor .u8 (rd nonce ki) 4))) := hB.setCell (by simp; omega) _
             rw [hX.out, hD.out] at hb19
             clear cx fx ho20 ho21
             rw [hX.out] at *
             generalize World.setCell w10 ⟨g19, ki, none⟩ (.int .u8 X) = wt at *
             refine load_blk rfl 23 _ rfl g18 rfl 23 _ hb18 32 5 arr23 (by simpa using HK.out) info23 ?_)
          | (refine load_blk rfl 23 _ rfl g18 rfl 23 _ hb18 32 5 arr23 (by simpa using HK.out) info23 ?_)
          | (refine load_blk rfl 24 _ rfl g19 rfl 24 _ hb19 12 5 arr24 (by simpa using hDl.out) info24 ?_)
          | (go_at_call 17; refine (open_calls key D ad ST A20 A21 c20 c21 n (n' + 16) (hE.two.below hB) HK.out hDl.out rk rD HN.out hA20 hr20 hSTl.out hc21 hr21 rST (by rw [← HN.out]; omega) (by rw [← hSTl.out]; omega)).mono ?_
             rintro e wu ⟨v25, er, rfl, hop, hBu⟩
             rw [hO2.out] at hop
             obtain ⟨her, hv25⟩ := hop
             subst her
             obtain ⟨A25, c25, hv25, _, _, _⟩ := id hv25.parts
             subst hv25
             (replace hb18 := hb18.belowAll hBu; replace hb19 := hb19.belowAll hBu; replace hr20 := hr20.below hBu; replace hr21 := hr21.below hBu; replace hB := below_then hB hB.size hBu))
          | (go_at_call 18; refine (open1_calls key D ad ST A20 A21 c20 c21 n (n' + 16) _ HK.out hDl.out rk rD HN.out hr20 ra hSTl.out hc21 hr21 rST (by rw [← HN.out]; omega) (by rw [← hSTl.out]; omega)).mono ?_
             rintro e wv ⟨v27, k28, rfl, hop, hBv⟩
             rw [hO2.out] at hop
             obtain ⟨hk28, hv27⟩ := hop
             subst hk28
             (replace hB := below_then hB hB.size hBv))
          | fail)
        go_ret
        exact ⟨rfl, hB⟩
      · obtain rfl := hne2.out j rfl
        have hbe : ((101 : Int) + ((8 : Nat) : Int) == 109) = true := by decide
        go_wp2_with (first
          | (go_at_call 16; refine (number_calls at' 12 _ (by omega) (by omega)).mono ?_; rintro e w10 ⟨rfl, rfl⟩; rw [hki.out])
          | (have hx := cx; clear hx
             have hg1 := hG18.out; have hg2 := hG19.out; have hg3 := hG20.out; have hg4 := hG21.out
             replace hb19 := hb19.setI ki (bits .xor .u8 (rd nonce ki) 4)
             replace hb18 := hb18.setOther (a := ⟨g19, ki, none⟩) (by simp; omega) (.int .u8 (bits .xor .u8 (rd nonce ki) 4))
             have hr20 := own_rd (ho20.setOther (a := ⟨g19, ki, none⟩) (ho20.ne_lt hg3.2.1).symm (.int .u8 (bits .xor .u8 (rd nonce ki) 4)))
             have hr21 := own_rd (ho21.setOther (a := ⟨g19, ki, none⟩) (ho21.ne_lt hg4.2.1).symm (.int .u8 (bits .xor .u8 (rd nonce ki) 4)))
             replace hB : Below w.heap.size w (World.setCell w10 ⟨g19, ki, none⟩ (.int .u8 (bits .xor .u8 (rd nonce ki) 4))) := hB.setCell (by simp; omega) _
             rw [hX.out, hD.out] at hb19
             clear cx fx ho20 ho21
             rw [hX.out] at *
             generalize World.setCell w10 ⟨g19, ki, none⟩ (.int .u8 X) = wt at *
             refine load_blk rfl 23 _ rfl g18 rfl 23 _ hb18 32 5 arr23 (by simpa using HK.out) info23 ?_)
          | (refine load_blk rfl 23 _ rfl g18 rfl 23 _ hb18 32 5 arr23 (by simpa using HK.out) info23 ?_)
          | (refine load_blk rfl 24 _ rfl g19 rfl 24 _ hb19 12 5 arr24 (by simpa using hDl.out) info24 ?_)
          | (go_at_call 17; refine (open_calls key D ad ST A20 A21 c20 c21 n (n' + 16) (hE.two.below hB) HK.out hDl.out rk rD HN.out hA20 hr20 hSTl.out hc21 hr21 rST (by rw [← HN.out]; omega) (by rw [← hSTl.out]; omega)).mono ?_
             rintro e wu ⟨v25, er, rfl, hop, hBu⟩
             rw [hO2.out] at hop
             obtain ⟨her, hv25⟩ := hop
             subst her
             subst hv25
             (replace hb18 := hb18.belowAll hBu; replace hb19 := hb19.belowAll hBu; replace hr20 := hr20.below hBu; replace hr21 := hr21.below hBu; replace hB := below_then hB hB.size hBu))
          | (go_at_call 18; refine (open1_calls key D ad ST A20 A21 c20 c21 n (n' + 16) _ HK.out hDl.out rk rD HN.out hr20 ra hSTl.out hc21 hr21 rST (by rw [← HN.out]; omega) (by rw [← hSTl.out]; omega)).mono ?_
             rintro e wv ⟨v27, k28, rfl, hop, hBv⟩
             rw [hO2.out] at hop
             obtain ⟨hk28, hv27⟩ := hop
             subst hk28
             (replace hB := below_then hB hB.size hBv))
          | (go_at_call 19; refine (is_err_calls 109 (hE.below hB) 8 (by omega)).mono ?_; rintro e wz ⟨he3, hBz⟩; rw [hbe] at he3; subst he3; (replace hB := below_then hB hB.size hBz))
          | fail)
        go_ret
        exact ⟨rfl, hB⟩
    · -- 3
      obtain ⟨A21, c21, hv21, hc21, _, hr21⟩ := id ho21.parts
      rw [← hSTl.out] at hv21 hc21
      subst hv21
      obtain ⟨AD, hAD⟩ : ∃ AD, Hd (ad ++ [0] = AD) := ⟨_, ⟨rfl⟩⟩
      have hADl : Hd (n + 1 = AD.length) := hid (by rw [← hAD.out, List.length_append, ← HN.out]; rfl)
      have rAD : bytesOk AD := by rw [← hAD.out]; exact bytesOk_snoc ra
      obtain ⟨O2, hO2⟩ : ∃ O2, Hd (openOf key nonce AD ST = O2) := ⟨_, ⟨rfl⟩⟩
      have hne2 : Hd (∀ j, O2 = .inr j → j = 8) := hid (fun j hj => by
        have h1 := hO2.out; unfold openOf at h1; rw [if_neg (by rw [← hSTl.out]; omega)] at h1; rw [hj] at h1; split at h1
        · cases h1
        · injection h1 with h1; exact h1.symm)
      refine (number_calls which 4 _ (by omega) (by omega)).mono ?_
      rintro e w10 ⟨rfl, rfl⟩
      rw [hq.out]
      rcases O2 with xs | j
      · skip
        go_wp2_with (first
          | (at_builtin; refine append_one rfl (.tmp 86) (.tmp 87) 25 rfl wd.heap.size 5 .u8 1 undBytes infoU8 _ ad rfl ho20 0 rfl (by rw [← HN.out]; omega) (by rw [← HN.out]; omega) (by have := hG20.out; have := hG21.out; omega) ?_; intro v20' w11 ho20' hg11
             have hg3 := hG20.out
             replace hb18 := hb18.grown hg11 (fun he => ho20.ne_lt hg3.1 he.symm)
             replace hb19 := hb19.grown hg11 (fun he => ho20.ne_lt hg3.2.1 he.symm)
             have hr21 := own_rd (ho21.kept hg11 (own_apart ho21 hG21.out.2.2.1))
             replace hB := ho20.grown_below hB hg11 hB.size hg3.2.2.1
             rw [hAD.out] at ho20'
             obtain ⟨A20, c20, hv20, _, hA20, hr20⟩ := id ho20'.parts
             rw [← hADl.out] at hv20
             subst hv20)
          | (refine load_blk rfl 23 _ rfl g18 rfl 23 _ hb18 32 5 arr23 (by simpa using HK.out) info23 ?_)
          | (refine load_blk rfl 24 _ rfl g19 rfl 24 _ hb19 12 5 arr24 (by simpa using HNL.out) info24 ?_)
          | (go_at_call 17; refine (open_calls key nonce AD ST A20 A21 c20 c21 (n + 1) (n' + 16) (hE.two.below hB) HK.out HNL.out rk rn hADl.out hA20 hr20 hSTl.out hc21 hr21 rST (by rw [← hADl.out]; omega) (by rw [← hSTl.out]; omega)).mono ?_
             rintro e wu ⟨v25, er, rfl, hop, hBu⟩
             rw [hO2.out] at hop
             obtain ⟨her, hv25⟩ := hop
             subst her
             obtain ⟨A25, c25, hv25, _, _, _⟩ := id hv25.parts
             subst hv25
             (replace hb18 := hb18.belowAll hBu; replace hb19 := hb19.belowAll hBu; replace hr20 := hr20.below hBu; replace hr21 := hr21.below hBu; replace hB := below_then hB hB.size hBu))
          | (go_at_call 18; refine (open1_calls key nonce AD ST A20 A21 c20 c21 (n + 1) (n' + 16) _ HK.out HNL.out rk rn hADl.out hr20 rAD hSTl.out hc21 hr21 rST (by rw [← hADl.out]; omega) (by rw [← hSTl.out]; omega)).mono ?_
             rintro e wv ⟨v27, k28, rfl, hop, hBv⟩
             rw [hO2.out] at hop
             obtain ⟨hk28, hv27⟩ := hop
             subst hk28
             (replace hB := below_then hB hB.size hBv))
          | fail)
        go_ret
        exact ⟨rfl, hB⟩
      · obtain rfl := hne2.out j rfl
        have hbe : ((101 : Int) + ((8 : Nat) : Int) == 109) = true := by decide
        go_wp2_with (first
          | (at_builtin; refine append_one rfl (.tmp 86) (.tmp 87) 25 rfl wd.heap.size 5 .u8 1 undBytes infoU8 _ ad rfl ho20 0 rfl (by rw [← HN.out]; omega) (by rw [← HN.out]; omega) (by have := hG20.out; have := hG21.out; omega) ?_; intro v20' w11 ho20' hg11
             have hg3 := hG20.out
             replace hb18 := hb18.grown hg11 (fun he => ho20.ne_lt hg3.1 he.symm)
             replace hb19 := hb19.grown hg11 (fun he => ho20.ne_lt hg3.2.1 he.symm)
             have hr21 := own_rd (ho21.kept hg11 (own_apart ho21 hG21.out.2.2.1))
             replace hB := ho20.grown_below hB hg11 hB.size hg3.2.2.1
             rw [hAD.out] at ho20'
             obtain ⟨A20, c20, hv20, _, hA20, hr20⟩ := id ho20'.parts
             rw [← hADl.out] at hv20
             subst hv20)
          | (refine load_blk rfl 23 _ rfl g18 rfl 23 _ hb18 32 5 arr23 (by simpa using HK.out) info23 ?_)
          | (refine load_blk rfl 24 _ rfl g19 rfl 24 _ hb19 12 5 arr24 (by simpa using HNL.out) info24 ?_)
          | (go_at_call 17; refine (open_calls key nonce AD ST A20 A21 c20 c21 (n + 1) (n' + 16) (hE.two.below hB) HK.out HNL.out rk rn hADl.out hA20 hr20 hSTl.out hc21 hr21 rST (by rw [← hADl.out]; omega) (by rw [← hSTl.out]; omega)).mono ?_
             rintro e wu ⟨v25, er, rfl, hop, hBu⟩
             rw [hO2.out] at hop
             obtain ⟨her, hv25⟩ := hop
             subst her
             subst hv25
             (replace hb18 := hb18.belowAll hBu; replace hb19 := hb19.belowAll hBu; replace hr20 := hr20.below hBu; replace hr21 := hr21.below hBu; replace hB := below_then hB hB.size hBu))
          | (go_at_call 18; refine (open1_calls key nonce AD ST A20 A21 c20 c21 (n + 1) (n' + 16) _ HK.out HNL.out rk rn hADl.out hr20 rAD hSTl.out hc21 hr21 rST (by rw [← hADl.out]; omega) (by rw [← hSTl.out]; omega)).mono ?_
             rintro e wv ⟨v27, k28, rfl, hop, hBv⟩
             rw [hO2.out] at hop
             obtain ⟨hk28, hv27⟩ := hop
             subst hk28
             (replace hB := below_then hB hB.size hBv))
          | (go_at_call 19; refine (is_err_calls 109 (hE.below hB) 8 (by omega)).mono ?_; rintro e wz ⟨he3, hBz⟩; rw [hbe] at he3; subst he3; (replace hB := below_then hB hB.size hBz))
          | fail)
        go_ret
        exact ⟨rfl, hB⟩
end Go.Proofs.YtpmmmbilfblcpaaDoor
