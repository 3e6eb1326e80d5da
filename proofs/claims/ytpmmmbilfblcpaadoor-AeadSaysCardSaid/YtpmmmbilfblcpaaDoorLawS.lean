/- The law AeadSays. -/
import Derived.Test.YtpmmmbilfblcpaaDoorOpn
import Derived.Test.YtpmmmbilfblcpaaDoorNum
import Derived.Test.YtpmmmbilfblcpaaDoorFacts
namespace Go.Proofs.YtpmmmbilfblcpaaDoor
open Go.RowKit Go.Cour
theorem undLLS : Tryd.prog.underlying 31 = some (.slice 25) := by kernel_rfl
theorem sizeBytesS : (Tryd.prog.info? 25).map (·.size) = some 1 := by kernel_rfl
theorem zeroBytesS : ((Tryd.prog.info? 25).bind (·.zero)).isSome = true := by kernel_rfl
/-- What stays while the three texts are opened. -/
structure LW (w wr : World) (g6 g7 g66 : Nat) (key nonce ST D : List Int) (v3 v14 v15 : Value) : Prop where
  k : Blk wr g6 23 (ints .u8 key)
  n : Blk wr g7 24 (ints .u8 nonce)
  ll : Blk wr g66 25 [v3, v14, v15]
  c : Own wr w.heap.size 5 .u8 v14 ST
  d : Own wr w.heap.size 5 .u8 v15 D
  bel : Below w.heap.size w wr
theorem LW.below {w wr wx : World} {g6 g7 g66 : Nat} {key nonce ST D : List Int} {v3 v14 v15 : Value} (h : LW w wr g6 g7 g66 key nonce ST D v3 v14 v15) (hb : Below wr.heap.size wr wx) : LW w wx g6 g7 g66 key nonce ST D v3 v14 v15 :=
  ⟨h.k.belowAll hb, h.n.belowAll hb, h.ll.belowAll hb, h.c.below hb, h.d.below hb, below_then h.bel h.bel.size hb⟩
theorem LW.drew {w wr : World} {g6 g7 g66 : Nat} {key nonce ST D : List Int} {v3 v14 v15 : Value} (h : LW w wr g6 g7 g66 key nonce ST D v3 v14 v15) : LW w wr.drew g6 g7 g66 key nonce ST D v3 v14 v15 :=
  ⟨h.k.drew, h.n.drew, h.ll.drew, h.c.drew, h.d.drew, below_drewN h.bel 1⟩
set_option maxHeartbeats 4000000 in
set_option maxRecDepth 100000 in
theorem aeadSays_calls (key nonce ad b : List Int) (A A' : Option Addr) (c c' n n' : Nat) (at' by' : Int) {w : World} {P : Nat → Addr} (hE : Errs w P) (hk : key.length = 32) (hnl : nonce.length = 12) (rk : bytesOk key) (rn : bytesOk nonce)
    (hn : n = ad.length) (hA : A = none → c = 0) (hr : Rd w A .u8 ad) (ra : bytesOk ad) (hn' : n' = b.length) (hc' : n' ≤ c') (hr' : Rd w A' .u8 b) (rb : bytesOk b) (hm : n ≤ 9223372036854775807) (hm' : n' ≤ 9223372036854775807) (hby : 0 ≤ by' ∧ by' < 256) :
    Calls Tryd.prog 3 #[.agg (ints .u8 key).toArray, .agg (ints .u8 nonce).toArray, .slice A n c, .slice A' n' c', .int .i64 at', .int .u8 by'] w fun e w' => e = .returned (.bool true) ∧ Below w.heap.size w w' := by
  have HN := hid hn
  have HN' := hid hn'
  have HR := hid hr
  have HR' := hid hr'
  have HK := hid hk
  have HNL := hid hnl
  clear hn hn' hr hr' hk hnl
  by_cases hl : 200 < n ∨ 200 < n'
  · by_cases hl1 : 200 < n
    · have hl2 : (200 : Int) < n := by omega
      clear hl
      go_enter Tryd.func3, Tryd.ntmps3
      go_wp2_with (first
        | (refine box_blk rfl 23 _ rfl _ rfl (ints .u8 key) rfl ?_; intro g4 w1 hg4 hb4 hB1 hs1)
        | (refine box_blk rfl 24 _ rfl _ rfl (ints .u8 nonce) rfl ?_; intro g5 w2 hg5 hb5 hB2 hs2; have hB := below_then hB1 hB1.size hB2; clear hg4 hg5 hs1 hs2)
        | (go_at_call 11; refine (first7_calls (hE.below hB)).mono ?_; rintro e w3 ⟨rfl, hB3⟩)
        | fail)
      go_ret
      exact ⟨rfl, below_then hB hB.size hB3⟩
    · have hl2 : ¬ (200 : Int) < n := by omega
      have hl3 : (200 : Int) < n' := by omega
      clear hl
      go_enter Tryd.func3, Tryd.ntmps3
      go_wp2_with (first
        | (refine box_blk rfl 23 _ rfl _ rfl (ints .u8 key) rfl ?_; intro g4 w1 hg4 hb4 hB1 hs1)
        | (refine box_blk rfl 24 _ rfl _ rfl (ints .u8 nonce) rfl ?_; intro g5 w2 hg5 hb5 hB2 hs2; have hB := below_then hB1 hB1.size hB2; clear hg4 hg5 hs1 hs2)
        | (go_at_call 11; refine (first7_calls (hE.below hB)).mono ?_; rintro e w3 ⟨rfl, hB3⟩)
        | fail)
      go_ret
      exact ⟨rfl, below_then hB hB.size hB3⟩
  · have hl2 : ¬ (200 : Int) < n := by omega
    have hl3 : ¬ (200 : Int) < n' := by omega
    have hn2 : n ≤ 200 := by omega
    have hn2' : n' ≤ 200 := by omega
    clear hl hm hm'
    obtain ⟨ST, hST⟩ : ∃ ST, Hd (sealText key nonce ad b = ST) := ⟨_, ⟨rfl⟩⟩
    have hSTl : Hd (n' + 16 = ST.length) := hid (by rw [← hST.out, sealText_length, ← HN'.out])
    have rST : bytesOk ST := by rw [← hST.out]; exact sealText_ok _ _ _ _ rb
    obtain ⟨ki, hki, hkl⟩ : ∃ ki : Nat, Hd (at' % ((n' + 16 : Nat) : Int) = (ki : Int)) ∧ ki < n' + 16 := ⟨(at' % ((n' + 16 : Nat) : Int)).toNat, hid (by have := Int.emod_nonneg at' (show ((n' + 16 : Nat) : Int) ≠ 0 by omega); omega), by have := Int.emod_nonneg at' (show ((n' + 16 : Nat) : Int) ≠ 0 by omega); have := Int.emod_lt_of_pos at' (show 0 < ((n' + 16 : Nat) : Int) by omega); omega⟩
    go_enter Tryd.func3, Tryd.ntmps3
    go_wp2_with (first
      | (refine box_blk rfl 23 _ rfl _ rfl (ints .u8 key) rfl ?_; intro g6 w1 hg6 hb6 hB1 hs1)
      | (refine box_blk rfl 24 _ rfl _ rfl (ints .u8 nonce) rfl ?_; intro g7 w2 hg7 hb7 hB2 hs2
         replace hb6 := hb6.belowAll hB2
         have hz : Hd (w.heap.size ≤ g6 ∧ g6 < g7) := hid (by omega)
         have hB := below_then hB1 hB1.size hB2
         clear hB1 hB2 hg6 hg7 hs1 hs2)
      | (go_at_call 11; refine (first7_calls (hE.below hB)).mono ?_; rintro e w3 ⟨rfl, hB3⟩
         replace hb6 := hb6.belowAll hB3
         replace hb7 := hb7.belowAll hB3
         replace hB := below_then hB hB.size hB3
         clear hB3)
      | (refine load_blk rfl 23 _ rfl g6 rfl 23 _ hb6 32 5 arr23 (by simpa using HK.out) info23 ?_)
      | (refine load_blk rfl 24 _ rfl g7 rfl 24 _ hb7 12 5 arr24 (by simpa using HNL.out) info24 ?_)
      | (go_at_call 12; refine (seal_calls key nonce ad b A A' c c' n n' w3 HK.out HNL.out rk rn HN.out hA (HR.out.below hB) HN'.out (HR'.out.below hB) (by rw [← HN.out]; omega) (by rw [← HN'.out]; omega)).mono ?_
         rintro e w4 ⟨v14, rfl, ho14, hB4⟩
         rw [hST.out] at ho14
         obtain ⟨A14, c14, hv14, hc14, _, _⟩ := id ho14.parts
         rw [← hSTl.out] at hv14 hc14
         subst hv14
         replace ho14 := ho14.lower hB.size
         replace hb6 := hb6.belowAll hB4
         replace hb7 := hb7.belowAll hB4
         replace hB := below_then hB hB.size hB4
         clear hB4)
      | (go_at_call 14; refine (seal1_calls key nonce ad b A A' c c' n n' w4 HK.out HNL.out rk rn HN.out (HR.out.below hB) ra HN'.out (HR'.out.below hB) rb (by rw [← HN.out]; omega) (by rw [← HN'.out]; omega)).mono ?_
         rintro e w5 ⟨v45, rfl, ho45, hB5⟩
         rw [hST.out] at ho45
         obtain ⟨A45, c45, hv45, _, _, hr45⟩ := id ho45.parts
         rw [← hSTl.out] at hv45
         subst hv45
         replace ho14 := ho14.below hB5
         replace hb6 := hb6.belowAll hB5
         replace hb7 := hb7.belowAll hB5
         replace hB := below_then hB hB.size hB5
         clear hB5)
      | (go_at_call 13; refine (same_calls ST ST A14 A45 c14 c45 (n' + 16) (n' + 16) w5 hSTl.out hSTl.out (own_rd ho14) hr45 (by rw [← hSTl.out]; omega) (by rw [← hSTl.out]; omega)).mono ?_
         rintro e w6 ⟨he6, qd, hqd⟩
         rw [decide_eq_true (rfl : ST = ST)] at he6
         subst he6
         have hB6 : Below w5.heap.size w5 w6 := by rw [hqd]; exact below_drewN (Below.refl _ _) qd
         replace ho14 := ho14.below hB6
         replace hb6 := hb6.belowAll hB6
         replace hb7 := hb7.belowAll hB6
         replace hB := below_then hB hB.size hB6
         clear hB6 hqd hr45 ho45)
      | (go_at_call 15; refine (bytes_calls ST A14 c14 (n' + 16) w6 hSTl.out (own_rd ho14) (by omega)).mono ?_
         rintro e w7 ⟨v15, rfl, ho15, hB7⟩
         have hl14 : Hd (∀ j, (Value.slice A14 (n' + 16) c14).ownBlock = some j → j < w6.heap.size) := hid (own_lt ho14)
         have hl67 : Hd (g6 < w6.heap.size ∧ g7 < w6.heap.size ∧ w.heap.size ≤ w6.heap.size) := hid ⟨hb6.lt, hb7.lt, hB.size⟩
         replace ho14 := ho14.below hB7
         replace hb6 := hb6.belowAll hB7
         replace hb7 := hb7.belowAll hB7
         replace hB := below_then hB hB.size hB7
         clear hB7
         obtain ⟨g15, c15, hv15, hg15, hcell, hfr, hset⟩ := own_at ho15 (by rw [← hSTl.out]; omega)
         rw [← hSTl.out] at hv15 hcell
         subst hv15
         have a1 : (ki : Int) < ((n' + 16 : Nat) : Int) := by omega
         have cx := hcell ki hkl
         have fx := hfr ki
         have hcd : Hd (n' + 16 ≤ c15) := hid (by obtain ⟨_, _, hq, hq2, _, _⟩ := ho15.slice; injection hq with _ _ hq3; rw [hq3, hSTl.out]; exact hq2)
         clear hcell hfr)
      | (go_at_call 16; refine (number_calls at' ((n' + 16 : Nat) : Int) _ (by omega) (by omega)).mono ?_; rintro e w8 ⟨rfl, rfl⟩; rw [hki.out])
      | fail)
    obtain ⟨D, hD⟩ : ∃ D, Hd (ST.set ki (bits .xor .u8 (rd ST ki) by') = D) := ⟨_, ⟨rfl⟩⟩
    have hDl : Hd (n' + 16 = D.length) := hid (by rw [← hD.out, List.length_set]; exact hSTl.out)
    have rD : bytesOk D := by rw [← hD.out]; exact bytesOk_set rST _ _ (xor_u8_bound _ _ (rST _) hby)
    have hL0 : LW w ((w8.setCell ⟨g15, ki, none⟩ (.int .u8 (bits .xor .u8 (rd ST ki) by'))).alloc (.cells #[.slice A' n' c', .slice A14 (n' + 16) c14, .slice (some ⟨g15, 0, none⟩) (n' + 16) c15] 25)) g6 g7 w8.heap.size key nonce ST D (.slice A' n' c') (.slice A14 (n' + 16) c14) (.slice (some ⟨g15, 0, none⟩) (n' + 16) c15) := by
      have h1 := hl67.out
      refine ⟨(hb6.setOther (by simp; omega) _).alloc _, (hb7.setOther (by simp; omega) _).alloc _, Blk.new' _ _ [_, _, _] _ (by simp [World.setCell]), (own_far ho14 hl14.out hg15).alloc _, ?_, (hB.setCell (by simp; omega) _).alloc (by have := hB.size; simp [World.setCell]; omega) _⟩
      have := (hset ki (bits .xor .u8 (rd ST ki) by')).alloc (.cells #[.slice A' n' c', .slice A14 (n' + 16) c14, .slice (some ⟨g15, 0, none⟩) (n' + 16) c15] 25)
      rw [hD.out] at this
      exact this.lower h1.2.2
    obtain ⟨g66, hg66⟩ : ∃ g66, g66 = w8.heap.size := ⟨_, rfl⟩
    rw [← hg66] at hL0 ⊢
    have hel : Hd (∀ i : Nat, i < 3 → ∃ (Ai : Option Addr) (mi ci : Nat) (Ti : List Int), ([.slice A' n' c', .slice A14 (n' + 16) c14, .slice (some ⟨g15, 0, none⟩) (n' + 16) c15] : List Value)[i]? = some (.slice Ai mi ci) ∧ mi = Ti.length ∧ mi ≤ ci ∧ mi ≤ 216 ∧ bytesOk Ti ∧
        ∀ wx, LW w wx g6 g7 g66 key nonce ST D (.slice A' n' c') (.slice A14 (n' + 16) c14) (.slice (some ⟨g15, 0, none⟩) (n' + 16) c15) → Rd wx Ai .u8 Ti) := hid (by
      intro i hi
      have : i = 0 ∨ i = 1 ∨ i = 2 := by omega
      rcases this with rfl | rfl | rfl
      · exact ⟨_, _, _, b, rfl, HN'.out, hc', by omega, rb, fun wx h => HR'.out.below h.bel⟩
      · exact ⟨_, _, _, ST, rfl, hSTl.out, hc14, by omega, rST, fun wx h => own_rd h.c⟩
      · exact ⟨_, _, _, D, rfl, hDl.out, hcd.out, by omega, rD, fun wx h => own_rd h.d⟩)
    generalize (w8.setCell ⟨g15, ki, none⟩ (.int .u8 (bits .xor .u8 (rd ST ki) by'))).alloc (.cells #[.slice A' n' c', .slice A14 (n' + 16) c14, .slice (some ⟨g15, 0, none⟩) (n' + 16) c15] 25) = w9 at hL0 ⊢
    obtain ⟨v15, hv15⟩ : ∃ v, Hd (v = Value.slice (some ⟨g15, 0, none⟩) (n' + 16) c15) := ⟨_, ⟨rfl⟩⟩
    obtain ⟨v14, hv14⟩ : ∃ v, Hd (v = Value.slice A14 (n' + 16) c14) := ⟨_, ⟨rfl⟩⟩
    obtain ⟨v3, hv3⟩ : ∃ v, Hd (v = Value.slice A' n' c') := ⟨_, ⟨rfl⟩⟩
    rw [← hv15.out, ← hv14.out, ← hv3.out] at hel hL0
    clear hb6 hb7 hB ho14 ho15 hset cx fx hl14 hl67 hg15 hg66 hki
    go_loopg [18] 4 (fun kq v18 wr => ∃ i : Nat, i ≤ 3 ∧ v18 = .int .i64 i ∧ Hd (kq + i = 4) ∧ LW w wr g6 g7 g66 key nonce ST D v3 v14 v15)
    case atStart => exact ⟨0, by omega, rfl, hid (by omega), hL0⟩
    case round =>
      clear hL0
      obtain ⟨i, hi, rfl, hq, hL⟩ := hrel
      by_cases hlt : i < 3
      · have a1 : (i : Int) < 3 := by omega
        obtain ⟨Ai, mi, ci, Ti, hce, hmi, hmc, hm2, rT, hrd⟩ := hel.out i hlt
        have HMI := hid hmi
        have HRD := hid hrd
        have HCE := hid hce
        clear hmi hrd hce
        obtain ⟨OP, hOP⟩ : ∃ OP, Hd (openOf key nonce ad Ti = OP) := ⟨_, ⟨rfl⟩⟩
        have hop2 : Hd (∀ j, OP = .inr j → j < 19) := hid (by rw [← hOP.out]; exact openOf_lt _ _ _ _)
        have hop1 : Hd ((opL OP).length ≤ 216) := hid (by have := openOf_opL key nonce ad Ti; rw [hOP.out] at this; have := HMI.out; omega)
        obtain ⟨OL, hOL⟩ : ∃ OL, Hd (opL OP = OL) := ⟨_, ⟨rfl⟩⟩
        rw [hOL.out] at hop1
        obtain ⟨ol, hol⟩ : ∃ ol, Hd (ol = OL.length) := ⟨_, ⟨rfl⟩⟩
        go_wp2_with fail
        refine wp_region_facts (ix := [[0], [1], [2], [3], [4], [5], [6], [7], [8], [8, 9], [8, 10], [8, 11], [8, 12]]) (S := fun w' => LW w w' g6 g7 g66 key nonce ST D v3 v14 v15)
          (R := fun w1 w2 => Below w1.heap.size w1 w2)
          (p := fun jO vs w' => match jO with
            | 0 => vs 0 = .agg (ints .u8 key).toArray
            | 1 => vs 1 = .agg (ints .u8 nonce).toArray
            | 2 => vs 2 = .slice A n c
            | 3 => vs 3 = .slice (some ⟨g66, 0, none⟩) 3 3
            | 4 => vs 4 = .int .i64 i
            | 5 => vs 5 = .pointer (some ⟨g66, i, none⟩)
            | 6 => vs 6 = .slice Ai mi ci
            | 7 => Tup2 (vs 7) (fun v er => Opened w' w.heap.size P OP v er)
            | 8 => Tup2 (vs 8) (fun v er => Opened w' w.heap.size P OP v er)
            | 9 => vs 9 = tupAt 0 (vs 8)
            | 10 => vs 10 = tupAt 1 (vs 8)
            | 11 => vs 11 = tupAt 0 (vs 8)
            | 12 => vs 12 = tupAt 1 (vs 8)
            | _ => True)
          (by kernel_rfl) (by kernel_rfl) ?_ ?_ ?_ ?_
        · exact hL.drew
        · intro jO vs w1 w2 hR h
          match jO with
          | 0 | 1 | 2 | 3 | 4 | 5 | 6 | 9 | 10 | 11 | 12 => exact h
          | 7 => exact h.mono fun v er h => h.below hR
          | 8 => exact h.mono fun v er h => h.below hR
          | nO + 13 => trivial
        · refine ⟨?_, ?_, ?_, ?_, ?_, ?_, ?_, ?_, ?_, ?_, ?_, ?_, ?_, trivial⟩
          · (intro vs w2 hS hd; simp [Region.binds, Fact.at] at hd; simp only [fill, List.take_succ_cons, List.take_zero, Act.put, List.setIfInBounds_toArray, List.set_cons_zero, List.set_cons_succ, Nat.reduceAdd])
            try simp only [hd]
            go_wp2_with (first
              | (refine load_blk rfl 23 _ rfl g6 rfl 23 _ hS.k 32 5 arr23 (by simpa using HK.out) info23 ?_)
              | fail)
            exact ⟨rfl, rfl, hS, Below.refl _ _⟩
          · (intro vs w2 hS hd; simp [Region.binds, Fact.at] at hd; simp only [fill, List.take_succ_cons, List.take_zero, Act.put, List.setIfInBounds_toArray, List.set_cons_zero, List.set_cons_succ, Nat.reduceAdd])
            try simp only [hd]
            go_wp2_with (first
              | (refine load_blk rfl 24 _ rfl g7 rfl 24 _ hS.n 12 5 arr24 (by simpa using HNL.out) info24 ?_)
              | fail)
            exact ⟨rfl, rfl, hS, Below.refl _ _⟩
          · (intro vs w2 hS hd; simp [Region.binds, Fact.at] at hd; simp only [fill, List.take_succ_cons, List.take_zero, Act.put, List.setIfInBounds_toArray, List.set_cons_zero, List.set_cons_succ, Nat.reduceAdd])
            go_wp2_with fail
            exact ⟨rfl, rfl, hS, Below.refl _ _⟩
          · (intro vs w2 hS hd; simp [Region.binds, Fact.at] at hd; simp only [fill, List.take_succ_cons, List.take_zero, Act.put, List.setIfInBounds_toArray, List.set_cons_zero, List.set_cons_succ, Nat.reduceAdd])
            go_wp2_with fail
            exact ⟨rfl, rfl, hS, Below.refl _ _⟩
          · (intro vs w2 hS hd; simp [Region.binds, Fact.at] at hd; simp only [fill, List.take_succ_cons, List.take_zero, Act.put, List.setIfInBounds_toArray, List.set_cons_zero, List.set_cons_succ, Nat.reduceAdd])
            go_wp2_with fail
            exact ⟨rfl, rfl, hS, Below.refl _ _⟩
          · (intro vs w2 hS hd; simp [Region.binds, Fact.at] at hd; simp only [fill, List.take_succ_cons, List.take_zero, Act.put, List.setIfInBounds_toArray, List.set_cons_zero, List.set_cons_succ, Nat.reduceAdd])
            try simp only [hd]
            go_wp2_with fail
            exact ⟨rfl, rfl, hS, Below.refl _ _⟩
          · (intro vs w2 hS hd; simp [Region.binds, Fact.at] at hd; simp only [fill, List.take_succ_cons, List.take_zero, Act.put, List.setIfInBounds_toArray, List.set_cons_zero, List.set_cons_succ, Nat.reduceAdd])
            try simp only [hd]
            have cl := (hS.ll.cell i).trans HCE.out
            go_wp2_with fail
            exact ⟨rfl, rfl, hS, Below.refl _ _⟩
          · (intro vs w2 hS hd; simp [Region.binds, Fact.at] at hd; simp only [fill, List.take_succ_cons, List.take_zero, Act.put, List.setIfInBounds_toArray, List.set_cons_zero, List.set_cons_succ, Nat.reduceAdd])
            simp only [hd]
            go_wp2_with (first
              | (go_at_call 17; refine (open_calls key nonce ad Ti A Ai c ci n mi (hE.two.below hS.bel) HK.out HNL.out rk rn HN.out hA (HR.out.below hS.bel) HMI.out hmc (HRD.out _ hS) rT (by rw [← HN.out]; omega) (by rw [← HMI.out]; omega)).mono ?_; rintro e w3 ⟨v, er, rfl, ho, hBz⟩; rw [hOP.out] at ho)
              | fail)
            exact ⟨rfl, ⟨v, er, rfl, ho.lower hS.bel.size⟩, hS.below hBz, hBz⟩
          · (intro vs w2 hS hd; simp [Region.binds, Fact.at] at hd; simp only [fill, List.take_succ_cons, List.take_zero, Act.put, List.setIfInBounds_toArray, List.set_cons_zero, List.set_cons_succ, Nat.reduceAdd])
            obtain ⟨v, er, h1, h2⟩ : Tup2 (vs 7) _ := by first | exact hd | exact hd.1 | exact hd.2.1 | exact hd.2.2.1 | exact hd.2.2.2.1 | exact hd.2.2.2.2.1 | exact hd.2.2.2.2.2.1
            simp only [h1]
            go_wp2_with fail
            exact ⟨rfl, ⟨v, er, rfl, h2⟩, hS, Below.refl _ _⟩
          · (intro vs w2 hS hd; simp [Region.binds, Fact.at] at hd; simp only [fill, List.take_succ_cons, List.take_zero, Act.put, List.setIfInBounds_toArray, List.set_cons_zero, List.set_cons_succ, Nat.reduceAdd])
            obtain ⟨v, er, h1, h2⟩ : Tup2 (vs 8) _ := by first | exact hd | exact hd.1 | exact hd.2.1 | exact hd.2.2.1 | exact hd.2.2.2.1 | exact hd.2.2.2.2.1 | exact hd.2.2.2.2.2.1
            simp only [h1]
            go_wp2_with fail
            exact ⟨rfl, (by show v = tupAt 0 (vs 8); rw [h1]; rfl), hS, Below.refl _ _⟩
          · (intro vs w2 hS hd; simp [Region.binds, Fact.at] at hd; simp only [fill, List.take_succ_cons, List.take_zero, Act.put, List.setIfInBounds_toArray, List.set_cons_zero, List.set_cons_succ, Nat.reduceAdd])
            obtain ⟨v, er, h1, h2⟩ : Tup2 (vs 8) _ := by first | exact hd | exact hd.1 | exact hd.2.1 | exact hd.2.2.1 | exact hd.2.2.2.1 | exact hd.2.2.2.2.1 | exact hd.2.2.2.2.2.1
            simp only [h1]
            go_wp2_with fail
            exact ⟨rfl, (by show er = tupAt 1 (vs 8); rw [h1]; rfl), hS, Below.refl _ _⟩
          · (intro vs w2 hS hd; simp [Region.binds, Fact.at] at hd; simp only [fill, List.take_succ_cons, List.take_zero, Act.put, List.setIfInBounds_toArray, List.set_cons_zero, List.set_cons_succ, Nat.reduceAdd])
            have he : vs 9 = tupAt 0 (vs 8) := by first | exact hd | exact hd.1 | exact hd.2.1 | exact hd.2.2.1 | exact hd.2.2.2.1 | exact hd.2.2.2.2.1 | exact hd.2.2.2.2.2.1
            go_wp2_with fail
            first | exact ⟨rfl, rfl, hS, Below.refl _ _⟩ | exact ⟨rfl, he, hS, Below.refl _ _⟩
          · (intro vs w2 hS hd; simp [Region.binds, Fact.at] at hd; simp only [fill, List.take_succ_cons, List.take_zero, Act.put, List.setIfInBounds_toArray, List.set_cons_zero, List.set_cons_succ, Nat.reduceAdd])
            have he : vs 10 = tupAt 1 (vs 8) := by first | exact hd | exact hd.1 | exact hd.2.1 | exact hd.2.2.1 | exact hd.2.2.2.1 | exact hd.2.2.2.2.1 | exact hd.2.2.2.2.2.1
            go_wp2_with fail
            first | exact ⟨rfl, rfl, hS, Below.refl _ _⟩ | exact ⟨rfl, he, hS, Below.refl _ _⟩
        · intro vs wq hf hS
          obtain ⟨vx, ex, h8, hop⟩ : Tup2 (vs 8) (fun v er => Opened wq w.heap.size P OP v er) := hf 8 (by simp)
          have f11 : vs 11 = tupAt 0 (vs 8) := hf 11 (by simp)
          rw [h8] at f11; replace f11 : vs 11 = vx := f11
          have f12 : vs 12 = tupAt 1 (vs 8) := hf 12 (by simp)
          rw [h8] at f12; replace f12 : vs 12 = ex := f12
          simp only [fill, Act.put, List.setIfInBounds_toArray, List.set_cons_zero, List.set_cons_succ, Nat.reduceAdd]
          simp only [f11, f12]
          clear hf h8 f11 f12
          try generalize vs 0 = x16_0
          try generalize vs 1 = x16_1
          try generalize vs 2 = x16_2
          try generalize vs 3 = x16_3
          try generalize vs 4 = x16_4
          try generalize vs 5 = x16_5
          try generalize vs 6 = x16_6
          try generalize vs 7 = x16_7
          try generalize vs 8 = x16_8
          try generalize vs 9 = x16_9
          try generalize vs 10 = x16_10
          try clear vs
          replace hS := hS
          clear hL
          go_wp2_with fail
          refine wp_region_facts (ix := [[0], [1], [2], [3], [4], [5], [6], [7], [8], [8, 9], [8, 10], [8, 11], [8, 12]]) (S := fun w' => LW w w' g6 g7 g66 key nonce ST D v3 v14 v15 ∧ Opened w' w.heap.size P OP vx ex)
            (R := fun w1 w2 => Below w1.heap.size w1 w2)
            (p := fun jO vs w' => match jO with
              | 0 => vs 0 = .agg (ints .u8 key).toArray
              | 1 => vs 1 = .agg (ints .u8 nonce).toArray
              | 2 => vs 2 = .slice A n c
              | 3 => vs 3 = .slice (some ⟨g66, 0, none⟩) 3 3
              | 4 => vs 4 = .int .i64 i
              | 5 => vs 5 = .pointer (some ⟨g66, i, none⟩)
              | 6 => vs 6 = .slice Ai mi ci
              | 7 => Tup2 (vs 7) (fun v er => (fun (v' er : Value) => ∃ k : Int, er = .int .i64 k ∧ Opened1 w' w.heap.size OP v' k) v er)
              | 8 => Tup2 (vs 8) (fun v er => (fun (v' er : Value) => ∃ k : Int, er = .int .i64 k ∧ Opened1 w' w.heap.size OP v' k) v er)
              | 9 => vs 9 = tupAt 0 (vs 8)
              | 10 => vs 10 = tupAt 1 (vs 8)
              | 11 => vs 11 = tupAt 0 (vs 8)
              | 12 => vs 12 = tupAt 1 (vs 8)
              | _ => True)
            (by kernel_rfl) (by kernel_rfl) ?_ ?_ ?_ ?_
          · exact ⟨hS.drew, hop.drew⟩
          · intro jO vs w1 w2 hR h
            match jO with
            | 0 | 1 | 2 | 3 | 4 | 5 | 6 | 9 | 10 | 11 | 12 => exact h
            | 7 => exact h.mono fun v er h => (by obtain ⟨k, h1, h2⟩ := h; exact ⟨k, h1, h2.below hR⟩)
            | 8 => exact h.mono fun v er h => (by obtain ⟨k, h1, h2⟩ := h; exact ⟨k, h1, h2.below hR⟩)
            | nO + 13 => trivial
          · refine ⟨?_, ?_, ?_, ?_, ?_, ?_, ?_, ?_, ?_, ?_, ?_, ?_, ?_, trivial⟩
            · (intro vs w2 hS hd; simp [Region.binds, Fact.at] at hd; simp only [fill, List.take_succ_cons, List.take_zero, Act.put, List.setIfInBounds_toArray, List.set_cons_zero, List.set_cons_succ, Nat.reduceAdd])
              try simp only [hd]
              go_wp2_with (first
                | (refine load_blk rfl 23 _ rfl g6 rfl 23 _ hS.1.k 32 5 arr23 (by simpa using HK.out) info23 ?_)
                | fail)
              exact ⟨rfl, rfl, hS, Below.refl _ _⟩
            · (intro vs w2 hS hd; simp [Region.binds, Fact.at] at hd; simp only [fill, List.take_succ_cons, List.take_zero, Act.put, List.setIfInBounds_toArray, List.set_cons_zero, List.set_cons_succ, Nat.reduceAdd])
              try simp only [hd]
              go_wp2_with (first
                | (refine load_blk rfl 24 _ rfl g7 rfl 24 _ hS.1.n 12 5 arr24 (by simpa using HNL.out) info24 ?_)
                | fail)
              exact ⟨rfl, rfl, hS, Below.refl _ _⟩
            · (intro vs w2 hS hd; simp [Region.binds, Fact.at] at hd; simp only [fill, List.take_succ_cons, List.take_zero, Act.put, List.setIfInBounds_toArray, List.set_cons_zero, List.set_cons_succ, Nat.reduceAdd])
              go_wp2_with fail
              exact ⟨rfl, rfl, hS, Below.refl _ _⟩
            · (intro vs w2 hS hd; simp [Region.binds, Fact.at] at hd; simp only [fill, List.take_succ_cons, List.take_zero, Act.put, List.setIfInBounds_toArray, List.set_cons_zero, List.set_cons_succ, Nat.reduceAdd])
              go_wp2_with fail
              exact ⟨rfl, rfl, hS, Below.refl _ _⟩
            · (intro vs w2 hS hd; simp [Region.binds, Fact.at] at hd; simp only [fill, List.take_succ_cons, List.take_zero, Act.put, List.setIfInBounds_toArray, List.set_cons_zero, List.set_cons_succ, Nat.reduceAdd])
              go_wp2_with fail
              exact ⟨rfl, rfl, hS, Below.refl _ _⟩
            · (intro vs w2 hS hd; simp [Region.binds, Fact.at] at hd; simp only [fill, List.take_succ_cons, List.take_zero, Act.put, List.setIfInBounds_toArray, List.set_cons_zero, List.set_cons_succ, Nat.reduceAdd])
              try simp only [hd]
              go_wp2_with fail
              exact ⟨rfl, rfl, hS, Below.refl _ _⟩
            · (intro vs w2 hS hd; simp [Region.binds, Fact.at] at hd; simp only [fill, List.take_succ_cons, List.take_zero, Act.put, List.setIfInBounds_toArray, List.set_cons_zero, List.set_cons_succ, Nat.reduceAdd])
              try simp only [hd]
              have cl := (hS.1.ll.cell i).trans HCE.out
              go_wp2_with fail
              exact ⟨rfl, rfl, hS, Below.refl _ _⟩
            · (intro vs w2 hS hd; simp [Region.binds, Fact.at] at hd; simp only [fill, List.take_succ_cons, List.take_zero, Act.put, List.setIfInBounds_toArray, List.set_cons_zero, List.set_cons_succ, Nat.reduceAdd])
              simp only [hd]
              go_wp2_with (first
                | (go_at_call 18; refine (open1_calls key nonce ad Ti A Ai c ci n mi w2 HK.out HNL.out rk rn HN.out (HR.out.below hS.1.bel) ra HMI.out hmc (HRD.out _ hS.1) rT (by rw [← HN.out]; omega) (by rw [← HMI.out]; omega)).mono ?_; rintro e w3 ⟨v, k, rfl, ho, hBz⟩; rw [hOP.out] at ho)
                | fail)
              exact ⟨rfl, ⟨v, _, rfl, ⟨k, rfl, ho.lower hS.1.bel.size⟩⟩, ⟨hS.1.below hBz, hS.2.below hBz⟩, hBz⟩
            · (intro vs w2 hS hd; simp [Region.binds, Fact.at] at hd; simp only [fill, List.take_succ_cons, List.take_zero, Act.put, List.setIfInBounds_toArray, List.set_cons_zero, List.set_cons_succ, Nat.reduceAdd])
              obtain ⟨v, er, h1, h2⟩ : Tup2 (vs 7) _ := by first | exact hd | exact hd.1 | exact hd.2.1 | exact hd.2.2.1 | exact hd.2.2.2.1 | exact hd.2.2.2.2.1 | exact hd.2.2.2.2.2.1
              simp only [h1]
              go_wp2_with fail
              exact ⟨rfl, ⟨v, er, rfl, h2⟩, hS, Below.refl _ _⟩
            · (intro vs w2 hS hd; simp [Region.binds, Fact.at] at hd; simp only [fill, List.take_succ_cons, List.take_zero, Act.put, List.setIfInBounds_toArray, List.set_cons_zero, List.set_cons_succ, Nat.reduceAdd])
              obtain ⟨v, er, h1, h2⟩ : Tup2 (vs 8) _ := by first | exact hd | exact hd.1 | exact hd.2.1 | exact hd.2.2.1 | exact hd.2.2.2.1 | exact hd.2.2.2.2.1 | exact hd.2.2.2.2.2.1
              simp only [h1]
              go_wp2_with fail
              exact ⟨rfl, (by show v = tupAt 0 (vs 8); rw [h1]; rfl), hS, Below.refl _ _⟩
            · (intro vs w2 hS hd; simp [Region.binds, Fact.at] at hd; simp only [fill, List.take_succ_cons, List.take_zero, Act.put, List.setIfInBounds_toArray, List.set_cons_zero, List.set_cons_succ, Nat.reduceAdd])
              obtain ⟨v, er, h1, h2⟩ : Tup2 (vs 8) _ := by first | exact hd | exact hd.1 | exact hd.2.1 | exact hd.2.2.1 | exact hd.2.2.2.1 | exact hd.2.2.2.2.1 | exact hd.2.2.2.2.2.1
              simp only [h1]
              go_wp2_with fail
              exact ⟨rfl, (by show er = tupAt 1 (vs 8); rw [h1]; rfl), hS, Below.refl _ _⟩
            · (intro vs w2 hS hd; simp [Region.binds, Fact.at] at hd; simp only [fill, List.take_succ_cons, List.take_zero, Act.put, List.setIfInBounds_toArray, List.set_cons_zero, List.set_cons_succ, Nat.reduceAdd])
              have he : vs 9 = tupAt 0 (vs 8) := by first | exact hd | exact hd.1 | exact hd.2.1 | exact hd.2.2.1 | exact hd.2.2.2.1 | exact hd.2.2.2.2.1 | exact hd.2.2.2.2.2.1
              go_wp2_with fail
              first | exact ⟨rfl, rfl, hS, Below.refl _ _⟩ | exact ⟨rfl, he, hS, Below.refl _ _⟩
            · (intro vs w2 hS hd; simp [Region.binds, Fact.at] at hd; simp only [fill, List.take_succ_cons, List.take_zero, Act.put, List.setIfInBounds_toArray, List.set_cons_zero, List.set_cons_succ, Nat.reduceAdd])
              have he : vs 10 = tupAt 1 (vs 8) := by first | exact hd | exact hd.1 | exact hd.2.1 | exact hd.2.2.1 | exact hd.2.2.2.1 | exact hd.2.2.2.2.1 | exact hd.2.2.2.2.2.1
              go_wp2_with fail
              first | exact ⟨rfl, rfl, hS, Below.refl _ _⟩ | exact ⟨rfl, he, hS, Below.refl _ _⟩
          · intro vs wq hf hS
            obtain ⟨vy, ey, h8, hop1y⟩ : Tup2 (vs 8) (fun v er => (fun (v' er : Value) => ∃ k : Int, er = .int .i64 k ∧ Opened1 wq w.heap.size OP v' k) v er) := hf 8 (by simp)
            have f11 : vs 11 = tupAt 0 (vs 8) := hf 11 (by simp)
            rw [h8] at f11; replace f11 : vs 11 = vy := f11
            have f12 : vs 12 = tupAt 1 (vs 8) := hf 12 (by simp)
            rw [h8] at f12; replace f12 : vs 12 = ey := f12
            simp only [fill, Act.put, List.setIfInBounds_toArray, List.set_cons_zero, List.set_cons_succ, Nat.reduceAdd]
            simp only [f11, f12]
            clear hf h8 f11 f12
            try generalize vs 0 = x17_0
            try generalize vs 1 = x17_1
            try generalize vs 2 = x17_2
            try generalize vs 3 = x17_3
            try generalize vs 4 = x17_4
            try generalize vs 5 = x17_5
            try generalize vs 6 = x17_6
            try generalize vs 7 = x17_7
            try generalize vs 8 = x17_8
            try generalize vs 9 = x17_9
            try generalize vs 10 = x17_10
            try clear vs
            replace hS := hS
            have hop := hS.2
            have hL := hS.1
            obtain ⟨ky, rfl, hop1y⟩ := hop1y
            obtain ⟨A19, c19, hx, hr19⟩ := hop.rd
            obtain ⟨A21, c21, hy, hr21⟩ := hop1y.rd
            rw [hOL.out] at hx hr19 hy hr21
            rw [← hol.out] at hx hy
            subst hx hy
            clear hS
            go_wp2_with (first
              | (go_at_call 13; refine (same_calls OL OL A19 A21 c19 c21 ol ol wq hol.out hol.out hr19 hr21 (by have := hop1.out; omega) (by have := hop1.out; omega)).mono ?_
                 rintro e w6 ⟨he6, qd, hqd⟩
                 rw [decide_eq_true (rfl : OL = OL)] at he6
                 subst he6
                 have hBq : Below wq.heap.size wq w6 := by rw [hqd]; exact below_drewN (Below.refl _ _) qd
                 clear hqd hr19 hr21)
              | (go_at_call 19; refine (is_op_calls (hE.below (hL.below hBq).bel) hop2.out hop hop1y).mono ?_
                 rintro e w7 ⟨rfl, hBz⟩)
              | fail)
            go_roundg (gk - 1)
            case measure => have := hq.out; omega
            case rel => exact ⟨i + 1, by omega, by go_num, hid (by have := hq.out; omega), (hL.below hBq).below hBz⟩
      · obtain rfl : i = 3 := by omega
        have a1 : ¬ ((3 : Nat) : Int) < 3 := by omega
        go_wp2_with fail
        go_ret
        exact ⟨rfl, hL.bel⟩
end Go.Proofs.YtpmmmbilfblcpaaDoor
