import Derived.KernelRfl
import Derived.Test.YtlikinglgegclaaDoorMgDL0
import Derived.Test.YtlikinglgegclaaDoorMgDL1
import Derived.Test.YtlikinglgegclaaDoorMgDL2
import Derived.Test.YtlikinglgegclaaDoorMgDL3
import Derived.Test.YtlikinglgegclaaDoorMgDL4
set_option linter.unusedSimpArgs false
set_option linter.unusedVariables false
/- aead.tag. -/
namespace Go.Proofs.YtlikinglgegclaaDoor
open Go.RowKit Go.Cour
theorem gap_lt (n : Nat) : gap n < 16 := by unfold gap; omega
theorem padTo_length (xs b : List Int) : (padTo xs b).length = xs.length + b.length + gap b.length := by simp [padTo]; omega
theorem take_get {xs : List Int} {n j : Nat} {v : Value} (h : (ints .u8 (xs.take n))[j]? = some v) : (ints .u8 xs)[j]? = some v := by
  rw [ints, List.map_take] at h
  rw [List.getElem?_take] at h
  split at h
  · exact h
  · cases h
/-- What a tag is of. -/
def tagText (ad b : List Int) : List Int := padTo (padTo [] ad) b ++ lenTo ad.length 8 ++ lenTo b.length 8
def tagOf (key nonce ad b : List Int) : List Int := polySum ((block key 0 nonce).take 32) (tagText ad b)
theorem zeroT16 : ((Tryd.prog.info? 125).bind (·.zero)).map (·.cells) = some (ints .u8 (List.replicate 16 0)).toArray := by kernel_rfl
theorem zeroT64 : ((Tryd.prog.info? 142).bind (·.zero)).map (·.cells) = some (ints .u8 (List.replicate 64 0)).toArray := by kernel_rfl
theorem infoT16 : (Tryd.prog.info? 125).map (·.size) = some 16 := by kernel_rfl
theorem infoT64 : (Tryd.prog.info? 142).map (·.size) = some 64 := by kernel_rfl
theorem undT64 : Tryd.prog.underlying 142 = some (.array 64 5) := by kernel_rfl
theorem undT16 : Tryd.prog.underlying 125 = some (.array 16 5) := by kernel_rfl
/-- A slice taken for a pointer to an array of no more elements. -/
theorem arr_ptr {P : Program} {ops : Array Oper} {rest : List Oper} {o : Oper} {a : Act} {w : World} {Q : Exit → Act → World → Prop} (hgd : o.guard = none) (ty : TypeId) (x : Operand) (ho : o.op = .sliceToArrayPointer ty x)
    (A : Addr) (len cap n : Nat) (e : TypeId) (hx : a.eval x = .slice (some A) len cap) (hu : P.underlying ty = some (.array n e)) (hl : n ≤ len)
    (h : wpList P ops Q rest (a.put o.dst (.pointer (some A))) w) : wpList P ops Q (o :: rest) a w := by
  have hl2 : ¬ len < n := by omega
  refine wpList_plain hgd fun K hK => ?_
  unfold Oper.wp execOp
  simp [ho, hx, Instr.arrayAt, run_underlying hu, hl2]
  exact hK _ _ h
/-- What stays while a tag's last part is reckoned. -/
structure TagS (w : World) (g8 g9 B1 : Nat) (cs : List Int) (w' : World) : Prop where
  blk : Blk w' g9 142 (ints .u8 cs)
  bel : Below w.heap.size w w'
  size : B1 ≤ w'.heap.size
  out : ∃ old, Blk w' g8 125 old ∧ old.length = 16
theorem TagS.below {w : World} {g8 g9 B1 : Nat} {cs : List Int} {w' w2 : World} (h : TagS w g8 g9 B1 cs w') (hb : Below B1 w' w2) (h8 : g8 < B1) (h9 : g9 < B1) (hw : w.heap.size ≤ B1) : TagS w g8 g9 B1 cs w2 := by
  obtain ⟨old, h1, h2⟩ := h.out
  exact ⟨h.blk.below hb h9, ⟨hb.os.trans h.bel.os, hb.tape.trans h.bel.tape, hb.output.trans h.bel.output, Nat.le_trans h.bel.size hb.size, fun k hk => (hb.block k (by omega)).trans (h.bel.block k hk)⟩,
    Nat.le_trans h.size hb.size, old, h1.below hb h8, h2⟩
set_option maxHeartbeats 400000 in
set_option maxRecDepth 100000 in
theorem tag_calls (key nonce ad b : List Int) (A A' : Option Addr) (c c' n n' : Nat) (w : World) (hk : key.length = 32) (hnl : nonce.length = 12) (rk : bytesOk key) (rn : bytesOk nonce)
    (hn : n = ad.length) (hA : A = none → c = 0) (hr : Rd w A .u8 ad) (hn' : n' = b.length) (hA' : A' = none → c' = 0) (hr' : Rd w A' .u8 b) (hla : ad.length ≤ 100000) (hlb : b.length ≤ 100000) :
    Calls Tryd.prog 96 #[.agg (ints .u8 key).toArray, .agg (ints .u8 nonce).toArray, .slice A n c, .slice A' n' c'] w fun e w' => e = .returned (.agg (ints .u8 (tagOf key nonce ad b)).toArray) ∧ Below w.heap.size w w' := by
  subst hn hn'
  have HK := hid hk
  have HN := hid hnl
  go_enter Tryd.func96, Tryd.ntmps96
  go_wp2_with (first
    | (refine box_blk rfl 27 _ rfl _ rfl (ints .u8 key) rfl ?_; intro g4 w1 hg4 hb4 hB1 hs1)
    | (refine box_blk rfl 91 _ rfl _ rfl (ints .u8 nonce) rfl ?_; intro g5 w2 hg5 hb5 hB2 hs2
       have hb4' := hb4.belowAll hB2)
    | (refine alloc_blk rfl 125 rfl _ rfl (ints .u8 (List.replicate 16 0)) zeroT16 ?_; intro g8 w3 hg8 hb8 hB3 hs3
       have hb4'' := hb4'.belowAll hB3
       have hb5' := hb5.belowAll hB3)
    | (refine load_blk rfl 27 _ rfl g4 rfl 27 _ hb4'' 32 5 arr23 (by simp [ints, hk]) info23 ?_)
    | (refine load_blk rfl 91 _ rfl g5 rfl 91 _ hb5' 12 5 arr24 (by simp [ints, hnl]) info24 ?_)
    | (go_at_call 106; refine (block_calls key nonce 0 w3 hk hnl rk rn (by omega)).mono ?_; rintro e w4 ⟨rfl, hB4⟩)
    | (refine alloc_blk rfl 142 rfl _ rfl (ints .u8 (List.replicate 64 0)) zeroT64 ?_; intro g9 w5 hg9 hb9 hB5 hs5)
    | (refine store_blk rfl 142 _ _ rfl g9 (ints .u8 (block key 0 nonce)) rfl rfl 142 _ hb9 64 infoT64 (by simp [ints, block_length]) (by simp [ints]) (ints_one _ _) ?_
       have hb9' := hb9.setRow (ints .u8 (block key 0 nonce))
       have hbw6 := below_setRow (g := g9) hB5 (by omega) (ints .u8 (block key 0 nonce)).toArray
       generalize hW6 : w5.setRow g9 (ints .u8 (block key 0 nonce)).toArray = w6 at *
       have hB36 : Below w.heap.size w w6 := below_then (below_then (below_then (below_then hB1 hB1.size hB2) (by have := hB1.size; have := hB2.size; omega) hB3) (by have := hB1.size; have := hB2.size; have := hB3.size; omega) hB4) (by have := hB1.size; have := hB2.size; have := hB3.size; have := hB4.size; omega) hbw6)
    | (go_at_call 107; refine (padded_calls w6.heap.size v7 (padTo [] ad) b A' c' _ w7 rfl hA' ((hr'.below hB36).below hB7) ho7 (by have := padTo_length [] ad; have := gap_lt ad.length; simp only [List.length_nil] at *; omega) (by omega) hB7.size).mono ?_; rintro e w8 ⟨v8, rfl, ho8, hB8⟩)
    | (go_at_call 107; refine (padded_calls w6.heap.size (.slice none 0 0) [] ad A c _ w6 rfl hA (hr.below hB36) (Own.nil _ _ _ _) (by simp) (by omega) (Nat.le_refl _)).mono ?_; rintro e w7 ⟨v7, rfl, ho7, hB7⟩)
    | fail)
  obtain ⟨B1, hB1e⟩ : ∃ B1, B1 = w6.heap.size := ⟨_, rfl⟩
  have z1 := hB1.size
  have z2 := hB2.size
  have z3 := hB3.size
  have z4 := hB4.size
  have z5 := hbw6.size
  have zs : w5.heap.size = w6.heap.size := by rw [← hW6]; simp [World.setRow]
  have h8B : g8 < B1 := by omega
  have h9B : g9 < B1 := by omega
  have hwB : w.heap.size ≤ B1 := by omega
  rw [← hB1e] at ho7 hB7 ho8 hB8
  have hT8 : TagS w g8 g9 B1 (block key 0 nonce) w8 := by
    have hB68 := hB7.trans hB8
    have hb8w : Blk w6 g8 125 (ints .u8 (List.replicate 16 0)) := (hb8.belowAll hB4).belowAll hbw6
    exact TagS.below ⟨hb9', hB36, by omega, _, hb8w, by simp [ints]⟩ hB68 h8B h9B hwB
  have H8 := hid h8B
  have H9 := hid h9B
  have HW := hid hwB
  have H89 : Hd (g9 ≠ g8) := ⟨by omega⟩
  have hgl8 : w.heap.size ≤ g8 := by omega
  have HB1e := hid hB1e
  clear z1 z2 z3 z4 z5 zs hW6 hB1e
  have hp1 := padTo_length [] ad
  have hp2 := padTo_length (padTo [] ad) b
  have hg1 := gap_lt ad.length
  have hg2 := gap_lt b.length
  simp only [List.length_nil] at hp1
  have HPL : Hd ((padTo (padTo [] ad) b).length ≤ 1000000) := ⟨by omega⟩
  have HPL2 : Hd ((padTo (padTo [] ad) b ++ lenTo ad.length 8).length ≤ 1000000) := ⟨by rw [List.length_append, lenTo_length]; omega⟩
  have HTL : Hd ((tagText ad b).length ≤ 1000000) := ⟨by rw [tagText, List.length_append, List.length_append, lenTo_length, lenTo_length]; omega⟩
  clear hp1 hp2 hg1 hg2
  refine wp_region_factsU (ix := [[0], [1], [2], [3], [4], [5], [6], [7], [8], []]) (S := TagS w g8 g9 B1 (block key 0 nonce))
    (R := fun i w1 w2 => match i with
      | 5 | 7 => Below B1 w1 w2
      | 8 => Below w1.heap.size w1 w2
      | 9 => ∃ cs, w2 = w1.setRow g8 cs
      | _ => w2 = w1)
    (U := fun i w1 => match i with
      | 5 => Own w1 B1 5 .u8 v8 (padTo (padTo [] ad) b)
      | _ => True)
    (kill := fun j => match j with
      | 5 => some 7
      | _ => none)
    (p := fun j vs w' => match j with
      | 0 => vs 0 = .slice (some ⟨g9, 0, none⟩) 32 64
      | 1 => vs 1 = .pointer (some ⟨g9, 0, none⟩)
      | 2 => vs 2 = .agg (ints .u8 ((block key 0 nonce).take 32)).toArray
      | 3 => vs 3 = v8
      | 4 => vs 4 = .slice A ad.length c
      | 5 => Own w' B1 5 .u8 (vs 5) (padTo (padTo [] ad) b ++ lenTo ad.length 8)
      | 6 => vs 6 = .slice A' b.length c'
      | 7 => Own w' B1 5 .u8 (vs 7) (tagText ad b)
      | 8 => vs 8 = .agg (ints .u8 (tagOf key nonce ad b)).toArray
      | 9 => Blk w' g8 125 (ints .u8 (tagOf key nonce ad b))
      | _ => True)
    (ks := []) (hm := by kernel_rfl) (hc := by kernel_rfl) ?_ ?_ ?_ ?_ ?_ ?_
  · exact ⟨hT8.blk.drew, below_drewN hT8.bel 1, hT8.size, hT8.out⟩
  · intro i j vs w1 w2 hij hw hk hR h
    have keep : ∀ (v : Value) (xs : List Int), i ≠ 5 → i ≠ 7 → Own w1 B1 5 .u8 v xs → Own w2 B1 5 .u8 v xs := fun v xs h5 h7 ho => by
      match i with
      | 5 => exact absurd rfl h5
      | 7 => exact absurd rfl h7
      | 8 => exact ho.below hR
      | 9 => obtain ⟨cs, rfl⟩ := hR; exact ho.setRowOther (ho.ne_lt H8.out) cs
      | 0 | 1 | 2 | 3 | 4 | 6 | n + 10 => cases (hR : w2 = w1); exact ho
    match j with
    | 0 | 1 | 2 | 3 | 4 | 6 | 8 => exact h
    | 5 =>
      exact keep _ _ hij (fun he => hk (by subst he; rfl)) h
    | 7 =>
      refine keep _ _ (fun he => ?_) hij h
      subst he
      exact absurd (Eq.trans (by kernel_rfl : true = _) hw) (by decide)
    | 9 =>
      have h' : Blk w1 g8 125 (ints .u8 (tagOf key nonce ad b)) := h
      match i with
      | 5 => exact h'.below hR H8.out
      | 7 => exact h'.below hR H8.out
      | 8 => exact h'.belowAll hR
      | 9 => exact absurd rfl hij
      | 0 | 1 | 2 | 3 | 4 | 6 | n + 10 => cases (hR : w2 = w1); exact h'
    | n + 10 => trivial
  · intro j
    match j with
    | 5 => exact ho8.drew
    | 0 | 1 | 2 | 3 | 4 | n + 6 => trivial
  · intro i j w1 w2 hij hw hR h
    match j with
    | 0 | 1 | 2 | 3 | 4 | n + 6 => trivial
    | 5 =>
      have h' : Own w1 B1 5 .u8 v8 (padTo (padTo [] ad) b) := h
      match i with
      | 5 => exact absurd rfl hij
      | 7 => exact absurd (Eq.trans (by kernel_rfl : true = _) hw) (by decide)
      | 8 => exact h'.below hR
      | 9 => obtain ⟨cs, rfl⟩ := hR; exact h'.setRowOther (h'.ne_lt H8.out) cs
      | 0 | 1 | 2 | 3 | 4 | 6 | n + 10 => cases (hR : w2 = w1); exact h'
  · refine ⟨?_, ?_, ?_, ?_, ?_, ?_, ?_, ?_, ?_, ?_, trivial⟩
    · (intro vs w2 hS hU hd; simp [Region.binds, Fact.at] at hd; simp only [fill, List.take_succ_cons, List.take_zero, Act.put, List.setIfInBounds_toArray, List.set_cons_zero, List.set_cons_succ, Nat.reduceAdd])
      try simp only [hd]
      go_wp2_with fail
      exact ⟨rfl, rfl, hS, rfl⟩
    · (intro vs w2 hS hU hd; simp [Region.binds, Fact.at] at hd; simp only [fill, List.take_succ_cons, List.take_zero, Act.put, List.setIfInBounds_toArray, List.set_cons_zero, List.set_cons_succ, Nat.reduceAdd])
      try simp only [hd]
      go_wp2_with (first | (refine arr_ptr rfl 27 _ rfl ⟨g9, 0, none⟩ 32 64 32 5 rfl arr23 (by omega) ?_) | fail)
      exact ⟨rfl, rfl, hS, rfl⟩
    · (intro vs w2 hS hU hd; simp [Region.binds, Fact.at] at hd; simp only [fill, List.take_succ_cons, List.take_zero, Act.put, List.setIfInBounds_toArray, List.set_cons_zero, List.set_cons_succ, Nat.reduceAdd])
      simp only [hd]
      have hb2 := hS.blk
      go_wp2_with (first | (refine load_in rfl 27 _ rfl g9 0 rfl (ints .u8 ((block key 0 nonce).take 32)) (fun j v hv => by rw [hb2.cell, Nat.zero_add]; exact take_get hv) 32 5 arr23 (by simp [ints, block_length]) info23 ?_) | fail)
      exact ⟨rfl, rfl, hS, rfl⟩
    · (intro vs w2 hS hU hd; simp [Region.binds, Fact.at] at hd; simp only [fill, List.take_succ_cons, List.take_zero, Act.put, List.setIfInBounds_toArray, List.set_cons_zero, List.set_cons_succ, Nat.reduceAdd])
      try simp only [hd]
      go_wp2_with fail
      exact ⟨rfl, rfl, hS, rfl⟩
    · (intro vs w2 hS hU hd; simp [Region.binds, Fact.at] at hd; simp only [fill, List.take_succ_cons, List.take_zero, Act.put, List.setIfInBounds_toArray, List.set_cons_zero, List.set_cons_succ, Nat.reduceAdd])
      try simp only [hd]
      go_wp2_with fail
      exact ⟨rfl, rfl, hS, rfl⟩
    · (intro vs w2 hS hU hd; simp [Region.binds, Fact.at] at hd; simp only [fill, List.take_succ_cons, List.take_zero, Act.put, List.setIfInBounds_toArray, List.set_cons_zero, List.set_cons_succ, Nat.reduceAdd])
      obtain ⟨h3, h4⟩ := hd
      have hU' : Own w2 B1 5 .u8 v8 (padTo (padTo [] ad) b) := hU
      simp only [h3, h4]
      go_wp2_with (first | (go_at_call 109; refine (length_calls B1 v8 (padTo (padTo [] ad) b) A c ad.length w2 hU' HPL.out (by omega) hS.size).mono ?_; rintro e w3 ⟨v9, rfl, ho9, hB9⟩) | fail)
      exact ⟨rfl, ho9, hS.below hB9 H8.out H9.out HW.out, hB9⟩
    · (intro vs w2 hS hU hd; simp [Region.binds, Fact.at] at hd; simp only [fill, List.take_succ_cons, List.take_zero, Act.put, List.setIfInBounds_toArray, List.set_cons_zero, List.set_cons_succ, Nat.reduceAdd])
      try simp only [hd]
      go_wp2_with fail
      exact ⟨rfl, rfl, hS, rfl⟩
    · (intro vs w2 hS hU hd; simp [Region.binds, Fact.at] at hd; simp only [fill, List.take_succ_cons, List.take_zero, Act.put, List.setIfInBounds_toArray, List.set_cons_zero, List.set_cons_succ, Nat.reduceAdd])
      obtain ⟨h5, h6, _⟩ := hd
      simp only [h6]
      go_wp2_with (first | (go_at_call 109; refine (length_calls B1 (vs 5) (padTo (padTo [] ad) b ++ lenTo ad.length 8) A' c' b.length w2 h5 HPL2.out (by omega) hS.size).mono ?_; rintro e w3 ⟨v9, rfl, ho9, hB9⟩) | fail)
      exact ⟨rfl, ho9, hS.below hB9 H8.out H9.out HW.out, hB9⟩
    · (intro vs w2 hS hU hd; simp [Region.binds, Fact.at] at hd; simp only [fill, List.take_succ_cons, List.take_zero, Act.put, List.setIfInBounds_toArray, List.set_cons_zero, List.set_cons_succ, Nat.reduceAdd])
      obtain ⟨h2, h7⟩ := hd
      obtain ⟨T, hT⟩ : ∃ T, Hd (T = tagText ad b) := ⟨_, ⟨rfl⟩⟩
      have hTl : T.length ≤ 1000000 := by rw [hT.out]; exact HTL.out
      rw [← hT.out] at h7
      obtain ⟨A7, c7, h7v, hlc7, hA7, hrd7⟩ := h7.parts
      simp only [h2, h7v]
      go_wp2_with (first | (go_at_call 108; refine (sum_calls ((block key 0 nonce).take 32) T A7 T.length c7 w2 (by simp [block_length]) rfl hlc7 hrd7 hTl).mono ?_; rintro e w3 ⟨rfl, hB9⟩) | fail)
      exact ⟨rfl, by rw [hT.out]; rfl, hS.below ⟨hB9.os, hB9.tape, hB9.output, hB9.size, fun k hk => hB9.block k (Nat.lt_of_lt_of_le hk hS.size)⟩ H8.out H9.out HW.out, hB9⟩
    · (intro vs w2 hS hU hd; simp [Region.binds, Fact.at] at hd; simp only [fill, List.take_succ_cons, List.take_zero, Act.put, List.setIfInBounds_toArray, List.set_cons_zero, List.set_cons_succ, Nat.reduceAdd])
      obtain ⟨old, hbo, hol⟩ := hS.out
      simp only [hd.1]
      go_wp2_with (first | (refine store_blk rfl 125 _ _ rfl g8 (ints .u8 (tagOf key nonce ad b)) rfl rfl 125 old hbo 16 infoT16 (by simp [ints, tagOf, polySum_length]) hol (ints_one _ _) ?_) | fail)
      have hne : g9 ≠ g8 := H89.out
      exact ⟨rfl, hbo.setRow _, ⟨hS.blk.setRowOther hne _, below_setRow hS.bel hgl8 _, by simpa [World.setRow] using hS.size, _, hbo.setRow _, by simp [ints, tagOf, polySum_length]⟩, ⟨_, rfl⟩⟩
  · intro vs wq hf hS
    have h9 : Blk wq g8 125 (ints .u8 (tagOf key nonce ad b)) := hf 9 (by simp) rfl
    simp only [fill, Act.put, List.setIfInBounds_toArray, List.set_cons_zero, List.set_cons_succ, Nat.reduceAdd]
    clear hf
    go_wp2_with fail
    refine bodyPost_ret (results_blk rfl _ _ g8 125 _ 16 5 rfl h9 undT16 (by simp [ints, tagOf, polySum_length]) infoT16) rfl ?_
    exact ⟨rfl, hS.bel⟩
end Go.Proofs.YtlikinglgegclaaDoor
/- aead.Seal. -/
namespace Go.Proofs.YtlikinglgegclaaDoor
open Go.RowKit Go.Cour
def sealText (key nonce ad b : List Int) : List Int := xorStream key 1 nonce b ++ tagOf key nonce ad (xorStream key 1 nonce b)
theorem tagOf_length (key nonce ad b : List Int) : (tagOf key nonce ad b).length = 16 := polySum_length _ _
set_option maxHeartbeats 400000 in
set_option maxRecDepth 100000 in
theorem seal_calls (key nonce ad b : List Int) (A A' : Option Addr) (c c' n n' : Nat) (w : World) (hk : key.length = 32) (hnl : nonce.length = 12) (rk : bytesOk key) (rn : bytesOk nonce)
    (hn : n = ad.length) (hA : A = none → c = 0) (hr : Rd w A .u8 ad) (hn' : n' = b.length) (hr' : Rd w A' .u8 b) (hla : ad.length ≤ 100000) (hlb : b.length ≤ 100000) :
    Calls Tryd.prog 85 #[.agg (ints .u8 key).toArray, .agg (ints .u8 nonce).toArray, .slice A n c, .slice A' n' c'] w fun e w' => ∃ v, e = .returned v ∧ Own w' w.heap.size 5 .u8 v (sealText key nonce ad b) ∧ Below w.heap.size w w' := by
  subst hn hn'
  have hxl := xorStream_length key 1 nonce b
  obtain ⟨X, hX⟩ : ∃ X, X = xorStream key 1 nonce b := ⟨_, rfl⟩
  rw [← hX] at hxl
  have HX := hid hX
  have HXL := hid hxl
  clear hX hxl
  go_enter Tryd.func85, Tryd.ntmps85
  go_wp2_with (first
    | (refine box_blk rfl 27 _ rfl _ rfl (ints .u8 key) rfl ?_; intro g4 w1 hg4 hb4 hB1 hs1)
    | (refine box_blk rfl 91 _ rfl _ rfl (ints .u8 nonce) rfl ?_; intro g5 w2 hg5 hb5 hB2 hs2
       have hb4' := hb4.belowAll hB2
       have hB12 : Below w.heap.size w w2 := below_then hB1 hB1.size hB2)
    | (refine load_blk rfl 27 _ rfl g4 rfl 27 _ hb4c 32 5 arr23 (by simp [ints, hk]) info23 ?_)
    | (refine load_blk rfl 91 _ rfl g5 rfl 91 _ hb5c 12 5 arr24 (by simp [ints, hnl]) info24 ?_)
    | (refine load_blk rfl 27 _ rfl g4 rfl 27 _ hb4' 32 5 arr23 (by simp [ints, hk]) info23 ?_)
    | (refine load_blk rfl 91 _ rfl g5 rfl 91 _ hb5 12 5 arr24 (by simp [ints, hnl]) info24 ?_)
    | (go_at_call 95; refine (xor_calls key nonce b 1 A' c' w2 hk hnl rk rn (by omega) (hr'.below hB12) (by omega)).mono ?_
       rintro e w3 ⟨g, rfl, hgw, hbx, hB3⟩
       rw [← HX.out] at hbx
       have hb4c := hb4'.belowAll hB3
       have hb5c := hb5.belowAll hB3
       have hB13 : Below w.heap.size w w3 := below_then hB12 hB12.size hB3)
    | (go_at_call 96; refine (tag_calls key nonce ad X A (some ⟨g, 0, none⟩) c b.length ad.length b.length w3 hk hnl rk rn rfl hA (hr.below hB13) HXL.out.symm (by intro h; cases h) (Rd.ofBlk hbx) (by omega) (by rw [HXL.out]; omega)).mono ?_
       rintro e w4 ⟨rfl, hB4⟩)
    | (refine alloc_blk rfl 125 rfl _ rfl (ints .u8 (List.replicate 16 0)) zeroT16 ?_; intro g8 w5 hg8 hb8 hB5 hs5)
    | (refine store_blk rfl 125 _ _ rfl g8 (ints .u8 (tagOf key nonce ad X)) rfl rfl 125 _ hb8 16 infoT16 (by simp [ints, tagOf_length]) (by simp [ints]) (ints_one _ _) ?_
       have hb8' := hb8.setRow (ints .u8 (tagOf key nonce ad X))
       have hbw6 := below_setRow (g := g8) hB5 (by omega) (ints .u8 (tagOf key nonce ad X)).toArray
       generalize hW6 : w5.setRow g8 (ints .u8 (tagOf key nonce ad X)).toArray = w6 at *
       have hB46 : Below w3.heap.size w3 w6 := below_then hB4 hB4.size hbw6
       have hown : Own w6 w.heap.size 5 .u8 (.slice (some ⟨g, 0, none⟩) X.length X.length) X := Own.ofBlk (hbx.belowAll hB46) (by have := hB12.size; omega) (by rw [HXL.out]; unfold maxLen; omega)
       rw [HXL.out] at hown)
    | (at_builtin; refine append_list rfl (.tmp 20) (.tmp 21) 24 rfl w.heap.size 5 .u8 1 undBytes infoU8 _ X rfl hown (some ⟨g8, 0, none⟩) 16 16 (tagOf key nonce ad X) rfl (tagOf_length _ _ _ _).symm (by intro h; cases h) (Rd.ofBlk hb8') (by rw [HXL.out, tagOf_length]; omega) (by rw [HXL.out, tagOf_length]; omega) (by have := hB13.size; have := hB46.size; omega) ?_; intro v1 w7 ho7 hg7)
    | fail)
  go_ret
  refine ⟨v1, by simp, ?_, ?_⟩
  · rw [sealText, ← HX.out]; exact ho7
  · exact hown.grown_below (below_then hB13 hB13.size hB46) hg7 (by have := hB13.size; have := hB46.size; omega) (Nat.le_refl _)
end Go.Proofs.YtlikinglgegclaaDoor
/- stream.nonce. -/
namespace Go.Proofs.YtlikinglgegclaaDoor
open Go.RowKit Go.Cour
/-- A chunk's nonce. -/
def nonceOf (i : Int) (last : Bool) : List Int := [0, 0, 0, 0, 0, 0, 0, i / 16777216, i / 65536 % 256, i / 256 % 256, i % 256, if last then 1 else 0]
theorem nonceOf_length (i : Int) (last : Bool) : (nonceOf i last).length = 12 := rfl
theorem infoN12 : (Tryd.prog.info? 91).map (·.size) = some 12 := by kernel_rfl
theorem undN12 : Tryd.prog.underlying 91 = some (.array 12 5) := by kernel_rfl
theorem zeroN12 : ((Tryd.prog.info? 91).bind (·.zero)).map (·.cells) = some (ints .u8 (List.replicate 12 0)).toArray := by kernel_rfl
set_option maxHeartbeats 400000 in
set_option maxRecDepth 100000 in
theorem nonce_calls (i : Int) (last : Bool) (w : World) (hi : 0 ≤ i ∧ i < 4294967296) :
    Calls Tryd.prog 86 #[.int .u32 i, .bool last] w fun e w' => e = .returned (.agg (ints .u8 (nonceOf i last)).toArray) ∧ Below w.heap.size w w' := by
  cases last
  · go_enter Tryd.func86, Tryd.ntmps86
    go_wp2_with (first
    | (refine store_blk rfl 91 _ _ rfl g1 (ints .u8 [0, 0, 0, 0, 0, 0, 0, i / 16777216, i / 65536 % 256, i / 256 % 256, i % 256, 0]) rfl rfl 91 _ hb1'' 12 infoN12 (by simp [ints]) (by simp [ints]) (ints_one _ _) ?_)
    | (refine load_blk rfl 91 _ rfl g2 rfl 91 _ hb4 12 5 undN12 (by simp [ints]) infoN12 ?_)
    | (refine store_blk rfl 91 _ _ rfl g2 (ints .u8 [0, 0, 0, 0, 0, 0, 0, i / 16777216, i / 65536 % 256, i / 256 % 256, i % 256, 0]) rfl rfl 91 _ hb2 12 infoN12 (by simp [ints]) (by simp [ints]) (ints_one _ _) ?_
       have hb3 := hb2.setRow (ints .u8 [0, 0, 0, 0, 0, 0, 0, i / 16777216, i / 65536 % 256, i / 256 % 256, i % 256, 0])
       have hb1' := (hb1.belowAll hB2).setRowOther (g' := g2) (by have := hb1.lt; omega) (ints .u8 [0, 0, 0, 0, 0, 0, 0, i / 16777216, i / 65536 % 256, i / 256 % 256, i % 256, 0]).toArray
       have hB3 := below_setRow (below_then hB1 hB1.size hB2) (g := g2) (by have := hB1.size; omega) (ints .u8 [0, 0, 0, 0, 0, 0, 0, i / 16777216, i / 65536 % 256, i / 256 % 256, i % 256, 0]).toArray
       generalize World.setRow w2 _ _ = w3 at *
       have hb4 := hb3
       have hb1'' := hb1'
       have hB4 := hB3)
    | (have hx := hb1; refine alloc_blk rfl 91 rfl _ rfl (ints .u8 (List.replicate 12 0)) zeroN12 ?_; clear hx; intro g2 w2 hg2 hb2 hB2 hs2)
    | (refine alloc_blk rfl 91 rfl _ rfl (ints .u8 (List.replicate 12 0)) zeroN12 ?_; intro g1 w1 hg1 hb1 hB1 hs1)
    | fail)
    refine bodyPost_ret (results_blk rfl _ _ g1 91 _ 12 5 rfl (hb1''.setRow (ints .u8 [0, 0, 0, 0, 0, 0, 0, i / 16777216, i / 65536 % 256, i / 256 % 256, i % 256, 0])) undN12 (by simp [ints]) infoN12) rfl ?_
    exact ⟨rfl, below_setRow hB4 (by omega) _⟩
  · go_enter Tryd.func86, Tryd.ntmps86
    go_wp2_with (first
    | (refine store_blk rfl 91 _ _ rfl g1 (ints .u8 [0, 0, 0, 0, 0, 0, 0, i / 16777216, i / 65536 % 256, i / 256 % 256, i % 256, 1]) rfl rfl 91 _ hb1'' 12 infoN12 (by simp [ints]) (by simp [ints]) (ints_one _ _) ?_)
    | (refine load_blk rfl 91 _ rfl g2 rfl 91 _ hb4 12 5 undN12 (by simp [ints]) infoN12 ?_)
    | (refine store_blk rfl 91 _ _ rfl g2 (ints .u8 [0, 0, 0, 0, 0, 0, 0, i / 16777216, i / 65536 % 256, i / 256 % 256, i % 256, 0]) rfl rfl 91 _ hb2 12 infoN12 (by simp [ints]) (by simp [ints]) (ints_one _ _) ?_
       have hb3 := hb2.setRow (ints .u8 [0, 0, 0, 0, 0, 0, 0, i / 16777216, i / 65536 % 256, i / 256 % 256, i % 256, 0])
       have hb1' := (hb1.belowAll hB2).setRowOther (g' := g2) (by have := hb1.lt; omega) (ints .u8 [0, 0, 0, 0, 0, 0, 0, i / 16777216, i / 65536 % 256, i / 256 % 256, i % 256, 0]).toArray
       have hB3 := below_setRow (below_then hB1 hB1.size hB2) (g := g2) (by have := hB1.size; omega) (ints .u8 [0, 0, 0, 0, 0, 0, 0, i / 16777216, i / 65536 % 256, i / 256 % 256, i % 256, 0]).toArray
       generalize World.setRow w2 _ _ = w3 at *
       have fx := hb3.frozen 11
       have cx := hb3.cellI 11 (by simp)
       have hb4 : Blk (w3.setCell ⟨g2, 11, none⟩ (.int .u8 1)) g2 91 (ints .u8 [0, 0, 0, 0, 0, 0, 0, i / 16777216, i / 65536 % 256, i / 256 % 256, i % 256, 1]) := hb3.setI 11 1
       have hb1'' : Blk (w3.setCell ⟨g2, 11, none⟩ (.int .u8 1)) g1 91 (ints .u8 (List.replicate 12 0)) := hb1'.setOther (by have := hb1.lt; simp; omega) _
       have hB4 : Below w.heap.size w (w3.setCell ⟨g2, 11, none⟩ (.int .u8 1)) := hB3.setCell (by have := hB1.size; simp; omega) _)
    | (have hx := hb1; refine alloc_blk rfl 91 rfl _ rfl (ints .u8 (List.replicate 12 0)) zeroN12 ?_; clear hx; intro g2 w2 hg2 hb2 hB2 hs2)
    | (refine alloc_blk rfl 91 rfl _ rfl (ints .u8 (List.replicate 12 0)) zeroN12 ?_; intro g1 w1 hg1 hb1 hB1 hs1)
    | fail)
    refine bodyPost_ret (results_blk rfl _ _ g1 91 _ 12 5 rfl (hb1''.setRow (ints .u8 [0, 0, 0, 0, 0, 0, 0, i / 16777216, i / 65536 % 256, i / 256 % 256, i % 256, 1])) undN12 (by simp [ints]) infoN12) rfl ?_
    exact ⟨rfl, below_setRow hB4 (by omega) _⟩
end Go.Proofs.YtlikinglgegclaaDoor
/- Clone: a copy. -/
namespace Go.Proofs.YtlikinglgegclaaDoor
open Go.RowKit Go.Cour
set_option maxHeartbeats 2000000 in
set_option maxRecDepth 100000 in
theorem clone_calls (A : Option Addr) (m c : Nat) (xs : List Int) (w : World) (hm : m = xs.length) (hA : A = none → c = 0) (hr : Rd w A .u8 xs) (hl : xs.length ≤ 1000000000) :
    Calls Tryd.prog 72 #[.slice A m c] w fun e w' => ∃ v, e = .returned v ∧ Own w' w.heap.size 5 .u8 v xs ∧ Below w.heap.size w w' := by
  subst hm
  cases A with
  | none =>
    obtain rfl := hA rfl
    have hx : xs = [] := by
      rcases hr with hr | ⟨g, o, he, _⟩
      · exact hr
      · cases he
    subst hx
    have he := fun w => Lib.run_eql_slice_nil (P := Tryd.prog) w 24 5 none 0 0 0 0 undBytes
    go_enter Tryd.func72, Tryd.ntmps72
    go_wp2
    go_ret
    exact ⟨_, rfl, Own.nil _ _ _ _, Below.refl _ _⟩
  | some ad =>
    have HR := hid hr
    clear hr hA
    have he := fun w => Lib.run_eql_slice_nil (P := Tryd.prog) w 24 5 (some ad) xs.length c 0 0 undBytes
    go_enter Tryd.func72, Tryd.ntmps72
    have ho : Own (w.alloc (.cells (ints .u8 []).toArray 5)) w.heap.size 5 .u8 (.slice (some ⟨w.heap.size, 0, none⟩) ([] : List Int).length ([] : List Int).length) [] := Own.ofBlk (Blk.new w 5 (ints .u8 [])) (Nat.le_refl _) (by simp)
    go_wp2_with (at_builtin; refine append_list rfl (.tmp 5) (.tmp 6) 24 rfl w.heap.size 5 .u8 1 undBytes infoU8 _ [] rfl ho (some ad) xs.length c xs rfl rfl (by simp) (HR.out.alloc _) (by simp; omega) (by simp; omega) (by simp) ?_; intro v' w1 ho' hg')
    go_ret
    exact ⟨_, rfl, ho', ho.grown_below ((Below.refl _ _).alloc (Nat.le_refl _) _) hg' (by simp) (Nat.le_refl _)⟩
end Go.Proofs.YtlikinglgegclaaDoor
/- stream.Piece. -/
namespace Go.Proofs.YtlikinglgegclaaDoor
open Go.RowKit Go.Cour
attribute [local go_sem] max2_int min2_int
/-- A piece of a file. -/
def pieceOf (xs : List Int) (q i : Int) : List Int := if i < 0 ∨ (xs.length : Int) / max q 1 < i then [] else (xs.drop (i * max q 1).toNat).take (max q 1).toNat
theorem rd_sliceC {w : World} {A : Option Addr} {k : IntKind} {xs : List Int} (h : Rd w A k xs) (f : Nat) : Rd w (A.map (·.add f)) k (xs.drop f) := by
  rcases h with h | ⟨g, o, rfl, h⟩
  · exact .inl (by rw [h]; simp)
  · refine .inr ⟨g, o + f, by rw [Option.map_some, add_lit], fun i hi => ?_⟩
    rw [rd_drop, Nat.add_assoc]
    exact h _ (by rw [List.length_drop] at hi; omega)
theorem min_k1 (n f k : Nat) (c : Int) (hc : 1 ≤ c) (hk : k = min c.toNat (n - f)) (hf : f ≤ n) : (if (n : Int) - (f : Int) < c then (n : Int) - (f : Int) else c) = (k : Int) := by
  by_cases h : (n : Int) - (f : Int) < c
  · rw [if_pos h]; omega
  · rw [if_neg h]; omega
theorem min_k2 (n f k : Nat) (c : Int) (hc : 1 ≤ c) (hk : k = min c.toNat (n - f)) (hf : f ≤ n) : (if c < (n : Int) - (f : Int) then c else (n : Int) - (f : Int)) = (k : Int) := by
  by_cases h : c < (n : Int) - (f : Int)
  · rw [if_pos h]; omega
  · rw [if_neg h]; omega
set_option maxHeartbeats 400000 in
set_option maxRecDepth 100000 in
theorem piece_calls (xs : List Int) (A : Option Addr) (n cap : Nat) (q i : Int) (w : World) (hn : n = xs.length) (hA : A = none → cap = 0) (hcap : n ≤ cap) (hr : Rd w A .u8 xs) (hl : xs.length ≤ 100000)
    (hq : -1000000 ≤ q ∧ q ≤ 1000000) (hi : -1000000 ≤ i ∧ i ≤ 1000000) :
    Calls Tryd.prog 63 #[.slice A n cap, .int .i64 q, .int .i64 i] w fun e w' => ∃ v, e = .returned v ∧ Own w' w.heap.size 5 .u8 v (pieceOf xs q i) ∧ Below w.heap.size w w' := by
  have HN := hid hn
  have HR := hid hr
  rw [← hn] at hl
  clear hn hr
  obtain ⟨c, hc⟩ : ∃ c : Int, c = max q 1 := ⟨_, rfl⟩
  have c1 : 1 ≤ c := by omega
  have c2 : c ≤ 1000000 := by omega
  have m1 : (if q < 1 then (1 : Int) else q) = c := by split <;> omega
  obtain ⟨d, hd⟩ : ∃ d : Int, Hd ((n : Int) / c = d) := ⟨_, ⟨rfl⟩⟩
  have hpc : pieceOf xs q i = if i < 0 ∨ d < i then [] else (xs.drop (i * c).toNat).take c.toNat := by rw [pieceOf, ← hc, ← HN.out, hd.out]
  rw [hpc]
  clear hpc hc
  by_cases h0 : i < 0
  · rw [if_pos (.inl h0)]
    go_enter Tryd.func63, Tryd.ntmps63
    go_wp2_with fail
    go_ret
    exact ⟨_, rfl, Own.nil _ _ _ _, Below.refl _ _⟩
  · have hd0 : 0 ≤ d := by rw [← hd.out]; exact Int.ediv_nonneg (by omega) (by omega)
    have hdn : d ≤ n := by rw [← hd.out]; exact Int.ediv_le_self _ (by omega)
    by_cases h1 : d < i
    · rw [if_pos (.inr h1)]
      have w1 := hd.out
      go_enter Tryd.func63, Tryd.ntmps63
      go_wp2_with fail
      go_ret
      exact ⟨_, rfl, Own.nil _ _ _ _, Below.refl _ _⟩
    · rw [if_neg (by omega)]
      obtain ⟨f, hf⟩ : ∃ f : Nat, Hd ((f : Int) = i * c) := ⟨(i * c).toNat, ⟨Int.toNat_of_nonneg (Int.mul_nonneg (by omega) (by omega))⟩⟩
      have hfn : f ≤ n := by
        have h3 : i * c ≤ d * c := Int.mul_le_mul_of_nonneg_right (by omega) (by omega)
        have h4 : d * c ≤ n := hd.out ▸ Int.ediv_mul_le _ (by omega)
        have h5 := hf.out
        generalize i * c = ic at *
        generalize d * c = dc at *
        omega
      obtain ⟨k, hk⟩ : ∃ k : Nat, Hd (k = min c.toNat (n - f)) := ⟨_, ⟨rfl⟩⟩
      have hkn : f + k ≤ n := by have := hk.out; omega
      have hp : Hd ((xs.drop (i * c).toNat).take c.toNat = (xs.drop f).take k) := ⟨by
        rw [← hf.out, Int.toNat_natCast, hk.out]
        rcases Nat.le_total c.toNat (n - f) with h | h
        · rw [Nat.min_eq_left h]
        · rw [Nat.min_eq_right h, List.take_of_length_le (by rw [List.length_drop, ← HN.out]; exact h), List.take_of_length_le (by rw [List.length_drop, ← HN.out]; exact Nat.le_refl _)]⟩
      rw [hp.out]
      have m2 := min_k1 n f k c c1 hk.out hfn
      have m3 := min_k2 n f k c c1 hk.out hfn
      have w2 : wrap64 (i * c) = (f : Int) := by rw [← hf.out]; exact IntWalk.wrap64_in _ (by omega)
      have w1 := hd.out
      have hlen : Hd (k = ((xs.drop f).take k).length) := ⟨by rw [List.length_take, List.length_drop, ← HN.out]; omega⟩
      by_cases hcf : cap = f
      · obtain rfl : k = 0 := by omega
        go_enter Tryd.func63, Tryd.ntmps63
        go_wp2_with (first
          | (go_at_call 72; refine (clone_calls _ _ _ ((xs.drop f).take 0) _ (by simp; omega) (fun _ => rfl) (Rd.nil _ _ _) (by simp)).mono ?_; rintro e w' ⟨v, rfl, ho, hb⟩)
          | fail)
        go_ret
        exact ⟨_, rfl, ho, hb⟩
      · go_enter Tryd.func63, Tryd.ntmps63
        go_wp2_with (first
          | (go_at_call 72; refine (clone_calls _ _ _ ((xs.drop f).take k) _ hlen.out (fun hn => by have hc0 := hA (Option.map_eq_none_iff.1 hn); omega) ((rd_sliceC HR.out f).take k) (by rw [← hlen.out]; omega)).mono ?_; rintro e w' ⟨v, rfl, ho, hb⟩)
          | fail)
        go_ret
        exact ⟨_, rfl, ho, hb⟩
end Go.Proofs.YtlikinglgegclaaDoor
/- stream.Seal. -/
namespace Go.Proofs.YtlikinglgegclaaDoor
open Go.RowKit Go.Cour
/-- A sealed chunk. -/
def ssealText (key : List Int) (i : Int) (last : Bool) (b : List Int) : List Int := sealText key (nonceOf i last) [] b
theorem nonceOf_ok (i : Int) (last : Bool) (hi : 0 ≤ i ∧ i < 4294967296) : bytesOk (nonceOf i last) := by
  intro j
  have h : j = 0 ∨ j = 1 ∨ j = 2 ∨ j = 3 ∨ j = 4 ∨ j = 5 ∨ j = 6 ∨ j = 7 ∨ j = 8 ∨ j = 9 ∨ j = 10 ∨ j = 11 ∨ 12 ≤ j := by omega
  rcases h with rfl | rfl | rfl | rfl | rfl | rfl | rfl | rfl | rfl | rfl | rfl | rfl | h
  case inr.inr.inr.inr.inr.inr.inr.inr.inr.inr.inr.inr =>
    have : rd (nonceOf i last) j = 0 := by unfold rd; rw [List.getD_eq_getElem?_getD, List.getElem?_eq_none (by rw [nonceOf_length]; exact h)]; rfl
    omega
  all_goals cases last <;> simp [rd, nonceOf] <;> omega
set_option maxHeartbeats 400000 in
set_option maxRecDepth 100000 in
theorem sseal_calls (key : List Int) (i : Int) (last : Bool) (b : List Int) (A : Option Addr) (n c : Nat) (w : World) (hk : key.length = 32) (rk : bytesOk key) (hi : 0 ≤ i ∧ i < 4294967296)
    (hn : n = b.length) (hr : Rd w A .u8 b) (hlb : b.length ≤ 100000) :
    Calls Tryd.prog 62 #[.agg (ints .u8 key).toArray, .int .u32 i, .bool last, .slice A n c] w fun e w' => ∃ v, e = .returned v ∧ Own w' w.heap.size 5 .u8 v (ssealText key i last b) ∧ Below w.heap.size w w' := by
  subst hn
  go_enter Tryd.func62, Tryd.ntmps62
  go_wp2_with (first
    | (refine box_blk rfl 27 _ rfl _ rfl (ints .u8 key) rfl ?_; intro g4 w1 hg4 hb4 hB1 hs1; clear hg4 hs1)
    | fail)
  refine wp_region_facts (ix := [[0], [1], [2], [3], [4], [5], [6]]) (S := fun w' => Blk w' g4 27 (ints .u8 key) ∧ Below w.heap.size w w')
    (R := fun w1 w2 => Below w1.heap.size w1 w2)
    (p := fun j vs w' => match j with
      | 0 => vs 0 = .agg (ints .u8 key).toArray
      | 1 => vs 1 = .int .u32 i
      | 2 => vs 2 = .bool last
      | 3 => vs 3 = .agg (ints .u8 (nonceOf i last)).toArray
      | 4 => vs 4 = .slice A b.length c
      | 5 => Own w' w.heap.size 5 .u8 (vs 5) (ssealText key i last b)
      | 6 => Own w' w.heap.size 5 .u8 (vs 6) (ssealText key i last b)
      | _ => True)
    (by kernel_rfl) (by kernel_rfl) ?_ ?_ ?_ ?_
  · exact ⟨hb4.drew, below_drewN hB1 1⟩
  · intro j vs w1 w2 hR h
    match j with
    | 0 | 1 | 2 | 3 | 4 => exact h
    | 5 => exact Own.below h hR
    | 6 => exact Own.below h hR
    | n + 7 => trivial
  · refine ⟨?_, ?_, ?_, ?_, ?_, ?_, ?_, trivial⟩
    · (intro vs w2 hS hd; simp [Region.binds, Fact.at] at hd; simp only [fill, List.take_succ_cons, List.take_zero, Act.put, List.setIfInBounds_toArray, List.set_cons_zero, List.set_cons_succ, Nat.reduceAdd])
      try simp only [hd]
      go_wp2_with (first
        | (refine load_blk rfl 27 _ rfl g4 rfl 27 _ hS.1 32 5 arr23 (by simp [ints, hk]) info23 ?_)
        | fail)
      exact ⟨rfl, rfl, hS, Below.refl _ _⟩
    · (intro vs w2 hS hd; simp [Region.binds, Fact.at] at hd; simp only [fill, List.take_succ_cons, List.take_zero, Act.put, List.setIfInBounds_toArray, List.set_cons_zero, List.set_cons_succ, Nat.reduceAdd])
      try simp only [hd]
      go_wp2_with fail
      exact ⟨rfl, rfl, hS, Below.refl _ _⟩
    · (intro vs w2 hS hd; simp [Region.binds, Fact.at] at hd; simp only [fill, List.take_succ_cons, List.take_zero, Act.put, List.setIfInBounds_toArray, List.set_cons_zero, List.set_cons_succ, Nat.reduceAdd])
      try simp only [hd]
      go_wp2_with fail
      exact ⟨rfl, rfl, hS, Below.refl _ _⟩
    · (intro vs w2 hS hd; simp [Region.binds, Fact.at] at hd; simp only [fill, List.take_succ_cons, List.take_zero, Act.put, List.setIfInBounds_toArray, List.set_cons_zero, List.set_cons_succ, Nat.reduceAdd])
      simp only [hd]
      go_wp2_with (first
        | (go_at_call 86; refine (nonce_calls i last w2 hi).mono ?_; rintro e w3 ⟨rfl, hB⟩)
        | fail)
      exact ⟨rfl, rfl, ⟨hS.1.belowAll hB, below_then hS.2 hS.2.size hB⟩, hB⟩
    · (intro vs w2 hS hd; simp [Region.binds, Fact.at] at hd; simp only [fill, List.take_succ_cons, List.take_zero, Act.put, List.setIfInBounds_toArray, List.set_cons_zero, List.set_cons_succ, Nat.reduceAdd])
      try simp only [hd]
      go_wp2_with fail
      exact ⟨rfl, rfl, hS, Below.refl _ _⟩
    · (intro vs w2 hS hd; simp [Region.binds, Fact.at] at hd; simp only [fill, List.take_succ_cons, List.take_zero, Act.put, List.setIfInBounds_toArray, List.set_cons_zero, List.set_cons_succ, Nat.reduceAdd])
      simp only [hd]
      go_wp2_with (first
        | (go_at_call 85; refine (seal_calls key (nonceOf i last) [] b none A 0 c 0 b.length w2 hk (nonceOf_length _ _) rk (nonceOf_ok i last hi) rfl (fun _ => rfl) (Rd.nil _ _ _) rfl (hr.below hS.2) (by simp) hlb).mono ?_; rintro e w3 ⟨v, rfl, ho, hB⟩)
        | fail)
      exact ⟨rfl, ho.lower hS.2.size, ⟨hS.1.belowAll hB, below_then hS.2 hS.2.size hB⟩, hB⟩
    · (intro vs w2 hS hd; simp [Region.binds, Fact.at] at hd; simp only [fill, List.take_succ_cons, List.take_zero, Act.put, List.setIfInBounds_toArray, List.set_cons_zero, List.set_cons_succ, Nat.reduceAdd])
      go_wp2_with fail
      exact ⟨rfl, hd.1, hS, Below.refl _ _⟩
  · intro vs wq hf hS
    have h6 : Own wq w.heap.size 5 .u8 (vs 6) (ssealText key i last b) := hf 6 (by simp)
    simp only [fill, Act.put, List.setIfInBounds_toArray, List.set_cons_zero, List.set_cons_succ, Nat.reduceAdd]
    clear hf
    go_wp2_with fail
    go_ret
    exact ⟨_, rfl, h6, hS.2⟩
end Go.Proofs.YtlikinglgegclaaDoor
/- stream.All. -/
namespace Go.Proofs.YtlikinglgegclaaDoor
open Go.RowKit Go.Cour
theorem countI_bounds (p q : Int) : 1 ≤ countI p q ∧ countI p q ≤ max p 1 := by
  have h1 : 0 ≤ max p 0 / max q 1 := Int.ediv_nonneg (by omega) (by omega)
  have h2 : max p 0 / max q 1 * max q 1 ≤ max p 0 := Int.ediv_mul_le _ (by omega)
  have h3 : max p 0 / max q 1 ≤ max p 0 := Int.ediv_le_self _ (by omega)
  have h4 : max p 0 / max q 1 ≤ max p 0 / max q 1 * max q 1 := by have := Int.mul_le_mul_of_nonneg_left (show (1 : Int) ≤ max q 1 by omega) h1; rwa [Int.mul_one] at this
  unfold countI countD
  generalize max p 0 / max q 1 * max q 1 = e at *
  generalize max p 0 / max q 1 = d at *
  split <;> omega
/-- The chunks of a file, sealed, the first j of them. -/
def allTo (key xs : List Int) (q n : Int) (j : Nat) : List (List Int) := (List.range j).map fun (i : Nat) => ssealText key i ((i : Int) == n - 1) (pieceOf xs q i)
def allTexts (key xs : List Int) (q : Int) : List (List Int) := allTo key xs q (countI xs.length q) (countI xs.length q).toNat
theorem allTo_succ (key xs : List Int) (q n : Int) (j : Nat) : allTo key xs q n (j + 1) = allTo key xs q n j ++ [ssealText key j ((j : Int) == n - 1) (pieceOf xs q j)] := by simp [allTo, List.range_succ]
theorem allTo_length (key xs : List Int) (q n : Int) (j : Nat) : (allTo key xs q n j).length = j := by simp [allTo]
theorem pieceOf_le (xs : List Int) (q i : Int) : (pieceOf xs q i).length ≤ xs.length := by
  unfold pieceOf
  split
  · simp
  · rw [List.length_take, List.length_drop]; omega
theorem infoLL : (Tryd.prog.info? 24).map (fun i => (i.zero.map (·.cells.size), i.size, i.bytes)) = some (some 1, 1, 24) := by kernel_rfl
theorem undLL : Tryd.prog.underlying 83 = some (.slice 24) := by kernel_rfl
theorem sizeBytes : (Tryd.prog.info? 24).map (·.size) = some 1 := by kernel_rfl
theorem zeroBytes : ((Tryd.prog.info? 24).bind (·.zero)).isSome = true := by kernel_rfl
set_option maxHeartbeats 800000 in
set_option maxRecDepth 100000 in
theorem all_calls (key xs : List Int) (q : Int) (A : Option Addr) (m c : Nat) (w : World) (hk : key.length = 32) (rk : bytesOk key)
    (hm : m = xs.length) (hA : A = none → c = 0) (hc : m ≤ c) (hr : Rd w A .u8 xs) (hl : xs.length ≤ 100000) (hq : -1000000 ≤ q ∧ q ≤ 1000000) :
    Calls Tryd.prog 35 #[.agg (ints .u8 key).toArray, .slice A m c, .int .i64 q] w fun e w' => ∃ v, e = .returned v ∧ OwnL w' w.heap.size 24 5 .u8 v (allTexts key xs q) ∧ Below w.heap.size w w' := by
  subst hm
  obtain ⟨N, hN⟩ : ∃ N : Nat, Hd (countI xs.length q = (N : Int)) := ⟨(countI xs.length q).toNat, ⟨by have := (countI_bounds xs.length q).1; omega⟩⟩
  have hNb : 1 ≤ N ∧ N ≤ 100000 := by have := countI_bounds xs.length q; have := hN.out; omega
  have hAll : Hd (allTexts key xs q = allTo key xs q N N) := ⟨by rw [allTexts, hN.out]; rfl⟩
  obtain ⟨zs, hzs⟩ : ∃ zs : List Int, Hd (zs = xs) := ⟨xs, ⟨rfl⟩⟩
  go_enter Tryd.func35, Tryd.ntmps35
  go_wp2_with (first
    | (refine box_blk rfl 27 _ rfl _ rfl (ints .u8 key) rfl ?_; intro g4 w1 hg4 hb4 hB1 hs1; clear hg4 hs1)
    | (go_at_call 61; refine (count_calls _ _ _ (by omega) hq).mono ?_; rintro e w2 ⟨rfl, rfl⟩; rw [hN.out])
    | fail)
  go_loopg [8, 15] N (fun kq v8 v15 wr => ∃ i : Nat, i ≤ N ∧ v15 = .int .i64 i ∧ Hd (kq + i = N) ∧ OwnL wr w.heap.size 24 5 .u8 v8 (allTo key xs q N i) ∧ Blk wr g4 27 (ints .u8 key) ∧ Below w.heap.size w wr)
  case atStart => exact ⟨0, by omega, rfl, hid (by omega), OwnL.nil _ _ _ _ _, hb4, hB1⟩
  case round =>
    clear hb4 hB1
    obtain ⟨i, hi, rfl, hgq, ho, hb4, hB⟩ := hrel
    by_cases hlt : i < N
    · have hlt' : (i : Int) < N := by omega
      obtain ⟨L, hL⟩ : ∃ L, ((i : Int) == (N : Int) - 1) = L := ⟨_, rfl⟩
      have HL := hid hL
      obtain ⟨TX, hTX⟩ : ∃ TX, Hd (ssealText key i L (pieceOf xs q i) = TX) := ⟨_, ⟨rfl⟩⟩
      go_wp2_with fail
      refine wp_region_factsU (ix := [[0], [1], [2], [3], [4], [5], [6], [7], [8], [9], [10], [11], [12], [13], [14], [15]]) (S := fun w' => Blk w' g4 27 (ints .u8 key) ∧ Below w.heap.size w w')
        (R := fun iO w1 w2 => if iO = 14 then w1.grownBy w2 u8.ownBlock else (Below w1.heap.size w1 w2))
        (U := fun iO w1 => match iO with
          | 14 => OwnL w1 w.heap.size 24 5 .u8 u8 (allTo key xs q N i)
          | _ => True)
        (kill := fun jO => match jO with
          | 11 => some 14
          | 12 => some 14
          | 13 => some 14
          | _ => none)
        (p := fun jO vs w' => match jO with
          | 0 => vs 0 = u8
          | 1 => vs 1 = .agg (ints .u8 key).toArray
          | 2 => vs 2 = .int .i64 i
          | 3 => vs 3 = .int .u32 i
          | 4 => vs 4 = .int .i64 i
          | 5 => vs 5 = .int .i64 N
          | 6 => vs 6 = .int .i64 ((N : Int) - 1)
          | 7 => vs 7 = .bool L
          | 8 => vs 8 = .slice A xs.length c
          | 9 => vs 9 = .int .i64 q
          | 10 => vs 10 = .int .i64 i
          | 11 => Own w' w.heap.size 5 .u8 (vs 11) (pieceOf xs q i)
          | 12 => Own w' w.heap.size 5 .u8 (vs 12) TX
          | 13 => ∃ g, vs 13 = .slice (some ⟨g, 0, none⟩) 1 1 ∧ ∃ u, Blk w' g 24 [u] ∧ Own w' w.heap.size 5 .u8 u TX
          | 14 => OwnL w' w.heap.size 24 5 .u8 (vs 14) (allTo key xs q N (i + 1))
          | 15 => OwnL w' w.heap.size 24 5 .u8 (vs 15) (allTo key xs q N (i + 1))
          | _ => True)
        (ks := [(11, 12), (12, 13)])
        (hm := by kernel_rfl) (hc := by kernel_rfl) ?_ ?_ ?_ ?_ ?_ ?_
      · exact ⟨hb4.drew, below_drewN hB 1⟩
      · intro iO jO vs w1 w2 hij hw hkl hR h
        have hB : iO ≠ 14 → Below w1.heap.size w1 w2 := fun h14 => by rw [if_neg h14] at hR; exact hR
        match jO with
        | 0 | 1 | 2 | 3 | 4 | 5 | 6 | 7 | 8 | 9 | 10 => exact h
        | 11 => exact Own.below h (hB (by rintro rfl; exact hkl rfl))
        | 12 => exact Own.below h (hB (by rintro rfl; exact hkl rfl))
        | 13 => obtain ⟨g, h1, u, h2, h3⟩ := h; exact ⟨g, h1, u, h2.belowAll (hB (by rintro rfl; exact hkl rfl)), h3.below (hB (by rintro rfl; exact hkl rfl))⟩
        | 14 => exact OwnL.below h (hB (by rintro rfl; exact hij rfl))
        | 15 => exact OwnL.below h (hB (by rintro rfl; exact absurd (Eq.trans (by kernel_rfl : true = _) hw) (by decide)))
        | nO + 16 => trivial
      · intro jO
        match jO with
        | 14 => exact ho.drew
        | 0 | 1 | 2 | 3 | 4 | 5 | 6 | 7 | 8 | 9 | 10 | 11 | 12 | 13 | 15 | nO + 16 => trivial
      · intro iO jO w1 w2 hij hw hR h
        have hB : iO ≠ 14 → Below w1.heap.size w1 w2 := fun h14 => by rw [if_neg h14] at hR; exact hR
        match jO with
        | 14 => exact OwnL.below h (hB (fun he => hij he))
        | 0 | 1 | 2 | 3 | 4 | 5 | 6 | 7 | 8 | 9 | 10 | 11 | 12 | 13 | 15 | nO + 16 => trivial
      · refine ⟨?_, ?_, ?_, ?_, ?_, ?_, ?_, ?_, ?_, ?_, ?_, ?_, ?_, ?_, ?_, ?_, trivial⟩
        · (intro vs w2 hS hU hd; simp [Region.binds, Fact.at] at hd; simp only [fill, List.take_succ_cons, List.take_zero, Act.put, List.setIfInBounds_toArray, List.set_cons_zero, List.set_cons_succ, Nat.reduceAdd])
          try simp only [hd]
          go_wp2_with fail
          exact ⟨rfl, rfl, hS, Below.refl _ _⟩
        · (intro vs w2 hS hU hd; simp [Region.binds, Fact.at] at hd; simp only [fill, List.take_succ_cons, List.take_zero, Act.put, List.setIfInBounds_toArray, List.set_cons_zero, List.set_cons_succ, Nat.reduceAdd])
          try simp only [hd]
          go_wp2_with (first
            | (refine load_blk rfl 27 _ rfl g4 rfl 27 _ hS.1 32 5 arr23 (by simp [ints, hk]) info23 ?_)
            | fail)
          exact ⟨rfl, rfl, hS, Below.refl _ _⟩
        · (intro vs w2 hS hU hd; simp [Region.binds, Fact.at] at hd; simp only [fill, List.take_succ_cons, List.take_zero, Act.put, List.setIfInBounds_toArray, List.set_cons_zero, List.set_cons_succ, Nat.reduceAdd])
          try simp only [hd]
          go_wp2_with fail
          exact ⟨rfl, rfl, hS, Below.refl _ _⟩
        · (intro vs w2 hS hU hd; simp [Region.binds, Fact.at] at hd; simp only [fill, List.take_succ_cons, List.take_zero, Act.put, List.setIfInBounds_toArray, List.set_cons_zero, List.set_cons_succ, Nat.reduceAdd])
          simp only [hd]
          go_wp2_with fail
          exact ⟨rfl, rfl, hS, Below.refl _ _⟩
        · (intro vs w2 hS hU hd; simp [Region.binds, Fact.at] at hd; simp only [fill, List.take_succ_cons, List.take_zero, Act.put, List.setIfInBounds_toArray, List.set_cons_zero, List.set_cons_succ, Nat.reduceAdd])
          try simp only [hd]
          go_wp2_with fail
          exact ⟨rfl, rfl, hS, Below.refl _ _⟩
        · (intro vs w2 hS hU hd; simp [Region.binds, Fact.at] at hd; simp only [fill, List.take_succ_cons, List.take_zero, Act.put, List.setIfInBounds_toArray, List.set_cons_zero, List.set_cons_succ, Nat.reduceAdd])
          try simp only [hd]
          go_wp2_with fail
          exact ⟨rfl, rfl, hS, Below.refl _ _⟩
        · (intro vs w2 hS hU hd; simp [Region.binds, Fact.at] at hd; simp only [fill, List.take_succ_cons, List.take_zero, Act.put, List.setIfInBounds_toArray, List.set_cons_zero, List.set_cons_succ, Nat.reduceAdd])
          simp only [hd]
          go_wp2_with fail
          exact ⟨rfl, rfl, hS, Below.refl _ _⟩
        · (intro vs w2 hS hU hd; simp [Region.binds, Fact.at] at hd; simp only [fill, List.take_succ_cons, List.take_zero, Act.put, List.setIfInBounds_toArray, List.set_cons_zero, List.set_cons_succ, Nat.reduceAdd])
          simp only [hd]
          go_wp2_with fail
          exact ⟨rfl, rfl, hS, Below.refl _ _⟩
        · (intro vs w2 hS hU hd; simp [Region.binds, Fact.at] at hd; simp only [fill, List.take_succ_cons, List.take_zero, Act.put, List.setIfInBounds_toArray, List.set_cons_zero, List.set_cons_succ, Nat.reduceAdd])
          try simp only [hd]
          go_wp2_with fail
          exact ⟨rfl, rfl, hS, Below.refl _ _⟩
        · (intro vs w2 hS hU hd; simp [Region.binds, Fact.at] at hd; simp only [fill, List.take_succ_cons, List.take_zero, Act.put, List.setIfInBounds_toArray, List.set_cons_zero, List.set_cons_succ, Nat.reduceAdd])
          try simp only [hd]
          go_wp2_with fail
          exact ⟨rfl, rfl, hS, Below.refl _ _⟩
        · (intro vs w2 hS hU hd; simp [Region.binds, Fact.at] at hd; simp only [fill, List.take_succ_cons, List.take_zero, Act.put, List.setIfInBounds_toArray, List.set_cons_zero, List.set_cons_succ, Nat.reduceAdd])
          try simp only [hd]
          go_wp2_with fail
          exact ⟨rfl, rfl, hS, Below.refl _ _⟩
        · (intro vs w2 hS hU hd; simp [Region.binds, Fact.at] at hd; simp only [fill, List.take_succ_cons, List.take_zero, Act.put, List.setIfInBounds_toArray, List.set_cons_zero, List.set_cons_succ, Nat.reduceAdd])
          simp only [hd]
          go_wp2_with (first
            | (go_at_call 63; refine (piece_calls xs A _ c q i w2 rfl hA hc (hr.below hS.2) hl hq (by omega)).mono ?_; rintro e w3 ⟨v, rfl, ho9, hB9⟩)
            | fail)
          exact ⟨rfl, ho9.lower hS.2.size, ⟨hS.1.belowAll hB9, below_then hS.2 hS.2.size hB9⟩, hB9⟩
        · (intro vs w2 hS hU hd; simp [Region.binds, Fact.at] at hd; simp only [fill, List.take_succ_cons, List.take_zero, Act.put, List.setIfInBounds_toArray, List.set_cons_zero, List.set_cons_succ, Nat.reduceAdd])
          obtain ⟨h1, h3, h7, h11⟩ := hd
          have hpl := Nat.le_trans (pieceOf_le xs q i) hl
          obtain ⟨ps, hps⟩ : ∃ ps, Hd (ps = pieceOf xs q i) := ⟨_, ⟨rfl⟩⟩
          rw [← hps.out] at h11 hpl
          obtain ⟨A1, c1, hv1, hc1, hA1, hr1⟩ := h11.parts
          simp only [h1, h3, h7, hv1]
          go_wp2_with (first
            | (go_at_call 62; refine (sseal_calls key i L ps A1 _ c1 w2 hk rk (by omega) rfl hr1 hpl).mono ?_; rintro e w3 ⟨v, rfl, ho9, hB9⟩; rw [hps.out, hTX.out] at ho9)
            | fail)
          exact ⟨rfl, ho9.lower hS.2.size, ⟨hS.1.belowAll hB9, below_then hS.2 hS.2.size hB9⟩, hB9⟩
        · (intro vs w2 hS hU hd; simp [Region.binds, Fact.at] at hd; simp only [fill, List.take_succ_cons, List.take_zero, Act.put, List.setIfInBounds_toArray, List.set_cons_zero, List.set_cons_succ, Nat.reduceAdd])
          obtain ⟨A1, c1, hv1, hc1, hA1, hr1⟩ := hd.parts
          go_wp2_with (first
            | (refine literal_one rfl 83 24 _ rfl (vs 12) rfl (by rw [hv1]; rfl) undLL sizeBytes zeroBytes ?_; intro g w3 hg9 hb9 hB9 hs9)
            | fail)
          exact ⟨rfl, ⟨g, rfl, vs 12, hb9, hd.below hB9⟩, ⟨hS.1.belowAll hB9, below_then hS.2 hS.2.size hB9⟩, hB9⟩
        · (intro vs w2 hS hU hd; simp [Region.binds, Fact.at] at hd; simp only [fill, List.take_succ_cons, List.take_zero, Act.put, List.setIfInBounds_toArray, List.set_cons_zero, List.set_cons_succ, Nat.reduceAdd])
          obtain ⟨h0, ⟨g, h1, u, h2, h3⟩, _⟩ := hd
          have hU' : OwnL w2 w.heap.size 24 5 .u8 u8 (allTo key xs q N i) := hU
          simp only [h0, h1]
          go_wp2_with (first
            | (at_builtin; refine append_row rfl (.tmp 18) (.tmp 31) 83 rfl w.heap.size 24 5 .u8 24 undLL infoLL (by decide) u8 (allTo key xs q N i) rfl hU' g u TX rfl h2 h3 (by rw [allTo_length]; omega) (by rw [allTo_length]; omega) hS.2.size ?_; intro v9 w3 ho9 hg9; rw [← hTX.out, ← HL.out, ← allTo_succ] at ho9)
            | fail)
          obtain ⟨cs9, hv9, _⟩ := id hU'
          exact ⟨rfl, ho9, ⟨hS.1.grown hg9 (hv9.ne_blk hS.1 (by decide)), hU'.grown_below hS.2 hg9 hS.2.size (Nat.le_refl _)⟩, hg9⟩
        · (intro vs w2 hS hU hd; simp [Region.binds, Fact.at] at hd; simp only [fill, List.take_succ_cons, List.take_zero, Act.put, List.setIfInBounds_toArray, List.set_cons_zero, List.set_cons_succ, Nat.reduceAdd])
          go_wp2_with fail
          exact ⟨rfl, hd.1, hS, Below.refl _ _⟩
      · intro vs wq hf hS
        have h15 : OwnL wq w.heap.size 24 5 .u8 (vs 15) (allTo key xs q N (i + 1)) := hf 15 (by simp) rfl
        simp only [fill, Act.put, List.setIfInBounds_toArray, List.set_cons_zero, List.set_cons_succ, Nat.reduceAdd]
        clear hf hL
        go_wp2_with fail
        go_roundg (gk - 1)
        case measure => have := hgq.out; omega
        case rel => exact ⟨i + 1, by omega, by go_num, hid (by have := hgq.out; omega), h15, hS.1, hS.2⟩
    · obtain rfl : i = N := by omega
      have hlt' : ¬ ((i : Int) < i) := by omega
      go_wp2_with fail
      go_ret
      refine ⟨_, rfl, ?_, hB⟩
      rw [hAll.out]
      exact ho
end Go.Proofs.YtlikinglgegclaaDoor
/- The reference's turn, its quarter of a round. -/
namespace Go.Proofs.YtlikinglgegclaaDoor
open Go.RowKit Go.Cour
theorem bits_or_comm (k : IntKind) (x y : Int) : bits .or k x y = bits .or k y x := by
  unfold bits
  simp only [BitVec.or_comm]
theorem rot16_calls (x : Int) (w : World) (h : 0 ≤ x) (h' : x < 4294967296) :
    Calls Tryd.prog 69 #[.int .u32 x, .int .u64 16] w fun e w' => e = .returned (.int .u32 (rotl 16 x)) ∧ w' = w := by
  have hr : bits .or .u32 (x / 65536) (x * 65536 % 4294967296) = rotl 16 x := by rw [bits_or_comm]; rfl
  have hr := hid hr
  go_enter Tryd.func69, Tryd.ntmps69
  go_wp2
  go_ret
  exact ⟨by rw [← hr.out]; rfl, rfl⟩
theorem rot20_calls (x : Int) (w : World) (h : 0 ≤ x) (h' : x < 4294967296) :
    Calls Tryd.prog 69 #[.int .u32 x, .int .u64 20] w fun e w' => e = .returned (.int .u32 (rotl 12 x)) ∧ w' = w := by
  have hr : bits .or .u32 (x / 1048576) (x * 4096 % 4294967296) = rotl 12 x := by rw [bits_or_comm]; rfl
  have hr := hid hr
  go_enter Tryd.func69, Tryd.ntmps69
  go_wp2
  go_ret
  exact ⟨by rw [← hr.out]; rfl, rfl⟩
theorem rot24_calls (x : Int) (w : World) (h : 0 ≤ x) (h' : x < 4294967296) :
    Calls Tryd.prog 69 #[.int .u32 x, .int .u64 24] w fun e w' => e = .returned (.int .u32 (rotl 8 x)) ∧ w' = w := by
  have hr : bits .or .u32 (x / 16777216) (x * 256 % 4294967296) = rotl 8 x := by rw [bits_or_comm]; rfl
  have hr := hid hr
  go_enter Tryd.func69, Tryd.ntmps69
  go_wp2
  go_ret
  exact ⟨by rw [← hr.out]; rfl, rfl⟩
theorem rot25R_calls (x : Int) (w : World) (h : 0 ≤ x) (h' : x < 4294967296) :
    Calls Tryd.prog 69 #[.int .u32 x, .int .u64 25] w fun e w' => e = .returned (.int .u32 (rotl 7 x)) ∧ w' = w := by
  have hr : bits .or .u32 (x / 33554432) (x * 128 % 4294967296) = rotl 7 x := by rw [bits_or_comm]; rfl
  have hr := hid hr
  go_enter Tryd.func69, Tryd.ntmps69
  go_wp2
  go_ret
  exact ⟨by rw [← hr.out]; rfl, rfl⟩
theorem zeroA16 : ((Tryd.prog.info? 153).bind (·.zero)).map (·.cells) = some (ints .u32 (List.replicate 16 0)).toArray := by kernel_rfl
set_option maxHeartbeats 4000000 in
set_option maxRecDepth 100000 in
theorem quarter1_calls (a b c d : Nat) (pa pb pc pd : Int) (xs : List Int) (w : World) (hx : xs.length = 16) (ha : a < 16) (hb : b < 16) (hc : c < 16) (hd : d < 16) (hw : words xs) (ea : pa = a) (eb : pb = b) (ec : pc = c) (ed : pd = d) :
    Calls Tryd.prog 103 #[.agg (ints .u32 xs).toArray, .int .i64 pa, .int .i64 pb, .int .i64 pc, .int .i64 pd] w fun e w' => e = .returned (.agg (ints .u32 (quarter xs a b c d)).toArray) ∧ Below w.heap.size w w' := by
  subst ea eb ec ed
  have ia : (a : Int) < 16 := by omega
  have ib : (b : Int) < 16 := by omega
  have ic : (c : Int) < 16 := by omega
  have id : (d : Int) < 16 := by omega
  obtain ⟨x0, HX⟩ : ∃ x, Hd (x = xs) := ⟨xs, hid rfl⟩
  have HL : Hd (x0.length = 16) := hid (by rw [HX.out]; exact hx)
  have HW : Hd (words x0) := hid (by rw [HX.out]; exact hw)
  clear hx hw
  rw [show ints .u32 xs = ints .u32 x0 by rw [HX.out]]
  go_enter Tryd.func103, Tryd.ntmps103
  go_wp2_with (first
    | (refine box_blk rfl 153 _ rfl _ rfl (ints .u32 x0) rfl ?_; intro g v1 hgz hb1 hB1 hs1)
    | (refine alloc_blk rfl 153 rfl _ rfl (ints .u32 (List.replicate 16 0)) zeroA16 ?_; intro g10 w0 hg10 hb10 hB2 hs2)
    | fail)
  have hg := hb1.belowAll hB2
  have hgne : Hd (g10 ≠ g) := hid (by have := hb1.lt; omega)
  have hgw : Hd (w.heap.size ≤ g ∧ w.heap.size ≤ g10) := hid (by have := hB1.size; omega)
  have hBel := below_then hB1 hB1.size hB2
  have HO : Only g w0 w0 := Only.refl g w0
  obtain ⟨wb, HE⟩ : ∃ v, Hd (v = w0) := ⟨w0, hid rfl⟩
  replace hb10 : Blk wb g10 153 (ints .u32 (List.replicate 16 0)) := by rw [HE.out]; exact hb10
  replace hBel : Below w.heap.size w wb := by rw [HE.out]; exact hBel
  replace HO : Only g wb w0 := by rw [HE.out]; exact HO
  clear HE hb1 hB1 hB2 hgz hg10 hs1 hs2
  -- region 0
  have cx := hg.cellI a (by have := HL.out; omega)
  have cy := hg.cellI b (by have := HL.out; omega)
  have fx := hg.frozen a
  refine wp_region_still_tail 9 (by kernel_rfl) (by kernel_rfl) ?_
  simp only [List.take_succ_cons, List.take_zero, List.drop_succ_cons, List.drop_zero]
  change wpStill _ _ (World.drew _) (fun a' => wpList _ _ _ _ a' (World.drew _)) _ _
  repeat still_step
  refine wpStill_nil ?_
  change wpList _ _ _ _ _ _
  go_wp2_with fail
  replace hg : Blk _ g 153 (ints .u32 (qadd x0 a b)) := (hg.setI a ((rd x0 a + rd x0 b) % 4294967296)).drew
  replace HO := (HO.setCell a (.int .u32 ((rd x0 a + rd x0 b) % 4294967296))).drew
  replace HW : Hd (words (qadd x0 a b)) := hid (words_qadd HW.out _ _)
  replace HL : Hd ((qadd x0 a b).length = 16) := hid (by have := HL.out; simpa using this)
  replace HX : Hd (qadd x0 a b = qadd xs a b) := hid (by rw [HX.out])
  clear cx cy fx
  generalize (w0.setCell { block := g, off := a } (.int .u32 ((rd x0 a + rd x0 b) % 4294967296))).drew = w1 at hg HO ⊢
  generalize hx1 : qadd x0 a b = x1 at hg HW HL HX
  clear hx1
  -- region 1
  have cx := hg.cellI d (by have := HL.out; omega)
  have cy := hg.cellI a (by have := HL.out; omega)
  have fx := hg.frozen d
  refine wp_region_still_tail 10 (by kernel_rfl) (by kernel_rfl) ?_
  simp only [List.take_succ_cons, List.take_zero, List.drop_succ_cons, List.drop_zero]
  change wpStill _ _ (World.drew _) (fun a' => wpList _ _ _ _ a' (World.drew _)) _ _
  repeat still_step
  still_call (rot16_calls _ _ (bits_u32_bound _ _ _).1 (bits_u32_bound _ _ _).2)
  repeat still_step
  refine wpStill_nil ?_
  change wpList _ _ _ _ _ _
  go_wp2_with fail
  replace hg : Blk _ g 153 (ints .u32 (qxor 16 x1 d a)) := (hg.setI d (rotl 16 (bits .xor .u32 (rd x1 d) (rd x1 a)))).drew
  replace HO := (HO.setCell d (.int .u32 (rotl 16 (bits .xor .u32 (rd x1 d) (rd x1 a))))).drew
  replace HW : Hd (words (qxor 16 x1 d a)) := hid (words_qxor HW.out _ _ _)
  replace HL : Hd ((qxor 16 x1 d a).length = 16) := hid (by have := HL.out; simpa using this)
  replace HX : Hd (qxor 16 x1 d a = qxor 16 (qadd xs a b) d a) := hid (by rw [HX.out])
  clear cx cy fx
  generalize (w1.setCell { block := g, off := d } (.int .u32 (rotl 16 (bits .xor .u32 (rd x1 d) (rd x1 a))))).drew = w2 at hg HO ⊢
  generalize hx1 : qxor 16 x1 d a = x2 at hg HW HL HX
  clear hx1
  -- region 2
  have cx := hg.cellI c (by have := HL.out; omega)
  have cy := hg.cellI d (by have := HL.out; omega)
  have fx := hg.frozen c
  refine wp_region_still_tail 9 (by kernel_rfl) (by kernel_rfl) ?_
  simp only [List.take_succ_cons, List.take_zero, List.drop_succ_cons, List.drop_zero]
  change wpStill _ _ (World.drew _) (fun a' => wpList _ _ _ _ a' (World.drew _)) _ _
  repeat still_step
  refine wpStill_nil ?_
  change wpList _ _ _ _ _ _
  go_wp2_with fail
  replace hg : Blk _ g 153 (ints .u32 (qadd x2 c d)) := (hg.setI c ((rd x2 c + rd x2 d) % 4294967296)).drew
  replace HO := (HO.setCell c (.int .u32 ((rd x2 c + rd x2 d) % 4294967296))).drew
  replace HW : Hd (words (qadd x2 c d)) := hid (words_qadd HW.out _ _)
  replace HL : Hd ((qadd x2 c d).length = 16) := hid (by have := HL.out; simpa using this)
  replace HX : Hd (qadd x2 c d = qadd (qxor 16 (qadd xs a b) d a) c d) := hid (by rw [HX.out])
  clear cx cy fx
  generalize (w2.setCell { block := g, off := c } (.int .u32 ((rd x2 c + rd x2 d) % 4294967296))).drew = w3 at hg HO ⊢
  generalize hx1 : qadd x2 c d = x3 at hg HW HL HX
  clear hx1
  -- region 3
  have cx := hg.cellI b (by have := HL.out; omega)
  have cy := hg.cellI c (by have := HL.out; omega)
  have fx := hg.frozen b
  refine wp_region_still_tail 10 (by kernel_rfl) (by kernel_rfl) ?_
  simp only [List.take_succ_cons, List.take_zero, List.drop_succ_cons, List.drop_zero]
  change wpStill _ _ (World.drew _) (fun a' => wpList _ _ _ _ a' (World.drew _)) _ _
  repeat still_step
  still_call (rot20_calls _ _ (bits_u32_bound _ _ _).1 (bits_u32_bound _ _ _).2)
  repeat still_step
  refine wpStill_nil ?_
  change wpList _ _ _ _ _ _
  go_wp2_with fail
  replace hg : Blk _ g 153 (ints .u32 (qxor 12 x3 b c)) := (hg.setI b (rotl 12 (bits .xor .u32 (rd x3 b) (rd x3 c)))).drew
  replace HO := (HO.setCell b (.int .u32 (rotl 12 (bits .xor .u32 (rd x3 b) (rd x3 c))))).drew
  replace HW : Hd (words (qxor 12 x3 b c)) := hid (words_qxor HW.out _ _ _)
  replace HL : Hd ((qxor 12 x3 b c).length = 16) := hid (by have := HL.out; simpa using this)
  replace HX : Hd (qxor 12 x3 b c = qxor 12 (qadd (qxor 16 (qadd xs a b) d a) c d) b c) := hid (by rw [HX.out])
  clear cx cy fx
  generalize (w3.setCell { block := g, off := b } (.int .u32 (rotl 12 (bits .xor .u32 (rd x3 b) (rd x3 c))))).drew = w4 at hg HO ⊢
  generalize hx1 : qxor 12 x3 b c = x4 at hg HW HL HX
  clear hx1
  -- region 4
  have cx := hg.cellI a (by have := HL.out; omega)
  have cy := hg.cellI b (by have := HL.out; omega)
  have fx := hg.frozen a
  refine wp_region_still_tail 9 (by kernel_rfl) (by kernel_rfl) ?_
  simp only [List.take_succ_cons, List.take_zero, List.drop_succ_cons, List.drop_zero]
  change wpStill _ _ (World.drew _) (fun a' => wpList _ _ _ _ a' (World.drew _)) _ _
  repeat still_step
  refine wpStill_nil ?_
  change wpList _ _ _ _ _ _
  go_wp2_with fail
  replace hg : Blk _ g 153 (ints .u32 (qadd x4 a b)) := (hg.setI a ((rd x4 a + rd x4 b) % 4294967296)).drew
  replace HO := (HO.setCell a (.int .u32 ((rd x4 a + rd x4 b) % 4294967296))).drew
  replace HW : Hd (words (qadd x4 a b)) := hid (words_qadd HW.out _ _)
  replace HL : Hd ((qadd x4 a b).length = 16) := hid (by have := HL.out; simpa using this)
  replace HX : Hd (qadd x4 a b = qadd (qxor 12 (qadd (qxor 16 (qadd xs a b) d a) c d) b c) a b) := hid (by rw [HX.out])
  clear cx cy fx
  generalize (w4.setCell { block := g, off := a } (.int .u32 ((rd x4 a + rd x4 b) % 4294967296))).drew = w5 at hg HO ⊢
  generalize hx1 : qadd x4 a b = x5 at hg HW HL HX
  clear hx1
  -- region 5
  have cx := hg.cellI d (by have := HL.out; omega)
  have cy := hg.cellI a (by have := HL.out; omega)
  have fx := hg.frozen d
  refine wp_region_still_tail 10 (by kernel_rfl) (by kernel_rfl) ?_
  simp only [List.take_succ_cons, List.take_zero, List.drop_succ_cons, List.drop_zero]
  change wpStill _ _ (World.drew _) (fun a' => wpList _ _ _ _ a' (World.drew _)) _ _
  repeat still_step
  still_call (rot24_calls _ _ (bits_u32_bound _ _ _).1 (bits_u32_bound _ _ _).2)
  repeat still_step
  refine wpStill_nil ?_
  change wpList _ _ _ _ _ _
  go_wp2_with fail
  replace hg : Blk _ g 153 (ints .u32 (qxor 8 x5 d a)) := (hg.setI d (rotl 8 (bits .xor .u32 (rd x5 d) (rd x5 a)))).drew
  replace HO := (HO.setCell d (.int .u32 (rotl 8 (bits .xor .u32 (rd x5 d) (rd x5 a))))).drew
  replace HW : Hd (words (qxor 8 x5 d a)) := hid (words_qxor HW.out _ _ _)
  replace HL : Hd ((qxor 8 x5 d a).length = 16) := hid (by have := HL.out; simpa using this)
  replace HX : Hd (qxor 8 x5 d a = qxor 8 (qadd (qxor 12 (qadd (qxor 16 (qadd xs a b) d a) c d) b c) a b) d a) := hid (by rw [HX.out])
  clear cx cy fx
  generalize (w5.setCell { block := g, off := d } (.int .u32 (rotl 8 (bits .xor .u32 (rd x5 d) (rd x5 a))))).drew = w6 at hg HO ⊢
  generalize hx1 : qxor 8 x5 d a = x6 at hg HW HL HX
  clear hx1
  -- region 6
  have cx := hg.cellI c (by have := HL.out; omega)
  have cy := hg.cellI d (by have := HL.out; omega)
  have fx := hg.frozen c
  refine wp_region_still_tail 9 (by kernel_rfl) (by kernel_rfl) ?_
  simp only [List.take_succ_cons, List.take_zero, List.drop_succ_cons, List.drop_zero]
  change wpStill _ _ (World.drew _) (fun a' => wpList _ _ _ _ a' (World.drew _)) _ _
  repeat still_step
  refine wpStill_nil ?_
  change wpList _ _ _ _ _ _
  go_wp2_with fail
  replace hg : Blk _ g 153 (ints .u32 (qadd x6 c d)) := (hg.setI c ((rd x6 c + rd x6 d) % 4294967296)).drew
  replace HO := (HO.setCell c (.int .u32 ((rd x6 c + rd x6 d) % 4294967296))).drew
  replace HW : Hd (words (qadd x6 c d)) := hid (words_qadd HW.out _ _)
  replace HL : Hd ((qadd x6 c d).length = 16) := hid (by have := HL.out; simpa using this)
  replace HX : Hd (qadd x6 c d = qadd (qxor 8 (qadd (qxor 12 (qadd (qxor 16 (qadd xs a b) d a) c d) b c) a b) d a) c d) := hid (by rw [HX.out])
  clear cx cy fx
  generalize (w6.setCell { block := g, off := c } (.int .u32 ((rd x6 c + rd x6 d) % 4294967296))).drew = w7 at hg HO ⊢
  generalize hx1 : qadd x6 c d = x7 at hg HW HL HX
  clear hx1
  -- region 7
  have cx := hg.cellI b (by have := HL.out; omega)
  have cy := hg.cellI c (by have := HL.out; omega)
  have fx := hg.frozen b
  refine wp_region_still_tail 10 (by kernel_rfl) (by kernel_rfl) ?_
  simp only [List.take_succ_cons, List.take_zero, List.drop_succ_cons, List.drop_zero]
  change wpStill _ _ (World.drew _) (fun a' => wpList _ _ _ _ a' (World.drew _)) _ _
  repeat still_step
  still_call (rot25R_calls _ _ (bits_u32_bound _ _ _).1 (bits_u32_bound _ _ _).2)
  repeat still_step
  refine wpStill_nil ?_
  change wpList _ _ _ _ _ _
  have hgL : Blk _ g 153 (ints .u32 (qxor 7 x7 b c)) := (hg.setI b (rotl 7 (bits .xor .u32 (rd x7 b) (rd x7 c)))).drew
  have hbL := hb10.only ((HO.setCell b (.int .u32 (rotl 7 (bits .xor .u32 (rd x7 b) (rd x7 c))))).drew) hgne.out
  have hlL : (ints .u32 (qxor 7 x7 b c)).length = 16 := by have := HL.out; simpa using this
  go_wp2_with (first
    | (refine load_blk rfl 153 _ rfl g rfl 153 _ hgL 16 29 arr65 hlL info65 ?_)
    | (refine store_blk rfl 153 _ _ rfl g10 (ints .u32 (qxor 7 x7 b c)) rfl rfl 153 _ hbL 16 info65 hlL (by simp [ints]) (ints_one _ _) ?_)
    | fail)
  clear hgL hbL hlL
  replace hg : Blk _ g 153 (ints .u32 (qxor 7 x7 b c)) := (hg.setI b (rotl 7 (bits .xor .u32 (rd x7 b) (rd x7 c)))).drew
  replace HO := (HO.setCell b (.int .u32 (rotl 7 (bits .xor .u32 (rd x7 b) (rd x7 c))))).drew
  replace HW : Hd (words (qxor 7 x7 b c)) := hid (words_qxor HW.out _ _ _)
  replace HL : Hd ((qxor 7 x7 b c).length = 16) := hid (by have := HL.out; simpa using this)
  replace HX : Hd (qxor 7 x7 b c = qxor 7 (qadd (qxor 8 (qadd (qxor 12 (qadd (qxor 16 (qadd xs a b) d a) c d) b c) a b) d a) c d) b c) := hid (by rw [HX.out])
  clear cx cy fx
  generalize (w7.setCell { block := g, off := b } (.int .u32 (rotl 7 (bits .xor .u32 (rd x7 b) (rd x7 c))))).drew = w8 at hg HO ⊢
  generalize hx1 : qxor 7 x7 b c = x8 at hg HW HL HX
  clear hx1
  have hb10e := hb10.only HO hgne.out
  have hl8 : (ints .u32 x8).length = 16 := by simpa using HL.out
  refine bodyPost_ret (results_blk rfl _ _ g10 153 _ 16 29 rfl (hb10e.setRow (ints .u32 x8)) arr65 hl8 info65) rfl ?_
  exact ⟨by rw [show quarter xs a b c d = x8 from HX.out.symm], below_setRow (hBel.trans ⟨HO.os, HO.tape, HO.output, by rw [HO.size]; exact Nat.le_refl _, fun k hk => HO.block k (by have := hgw.out; omega)⟩) hgw.out.2 _⟩
end Go.Proofs.YtlikinglgegclaaDoor
/- The reference's block of the stream. -/
namespace Go.Proofs.YtlikinglgegclaaDoor
open Go.RowKit Go.Cour
set_option maxHeartbeats 1000000 in
set_option maxRecDepth 100000 in
theorem word1_calls (g o c : Nat) (b0 b1 b2 b3 : Int) (w : World)
    (h0 : w.cell? ⟨g, o, none⟩ = some (.int .u8 b0)) (h1 : w.cell? ⟨g, o + 1, none⟩ = some (.int .u8 b1)) (h2 : w.cell? ⟨g, o + 2, none⟩ = some (.int .u8 b2)) (h3 : w.cell? ⟨g, o + 3, none⟩ = some (.int .u8 b3))
    (r0 : 0 ≤ b0 ∧ b0 < 256) (r1 : 0 ≤ b1 ∧ b1 < 256) (r2 : 0 ≤ b2 ∧ b2 < 256) (r3 : 0 ≤ b3 ∧ b3 < 256) :
    Calls Tryd.prog 102 #[.slice (some ⟨g, o, none⟩) 4 c] w fun e w' => e = .returned (.int .u32 (word4 b0 b1 b2 b3)) ∧ ∃ m, w' = w.drewN m := by
  go_enter Tryd.func102, Tryd.ntmps102
  go_wp2
  go_quiet (fail)
  go_wp2
  go_ret
  exact ⟨rfl, _, rfl⟩
theorem word1B_calls (g i c : Nat) (t : TypeId) (xs : List Int) (w : World) (hg : Blk w g t (ints .u8 xs)) (hi : i + 3 < xs.length) (r : bytesOk xs) :
    Calls Tryd.prog 102 #[.slice (some ⟨g, i, none⟩) 4 c] w fun e w' => e = .returned (.int .u32 (wordAt xs i)) ∧ ∃ m, w' = w.drewN m :=
  word1_calls g i c _ _ _ _ w (hg.cellI i (by omega)) (hg.cellI _ (by omega)) (hg.cellI _ (by omega)) (hg.cellI _ (by omega)) (r _) (r _) (r _) (r _)
theorem firstK_ctr (key : List Int) (c : Int) : ∀ n, n ≤ 8 → (firstK key 0 n).set 12 c = firstK key c n
  | 0, _ => rfl
  | n + 1, h => by rw [firstK_succ, firstK_succ, ← firstK_ctr key c n (by omega), List.set_comm _ _ (by omega)]
/-- What the blocks of a call hold. -/
structure RB (w wr : World) (g3 g5 g6 g7 : Nat) (key nonce first : List Int) : Prop where
  k : Blk wr g3 27 (ints .u8 key)
  n : Blk wr g5 91 (ints .u8 nonce)
  r : Blk wr g6 142 (ints .u8 (List.replicate 64 0))
  f : Blk wr g7 153 (ints .u32 first)
  bel : Below w.heap.size w wr
theorem RB.drewN {w wr : World} {g3 g5 g6 g7 : Nat} {key nonce first : List Int} (h : RB w wr g3 g5 g6 g7 key nonce first) (n : Nat) : RB w (wr.drewN n) g3 g5 g6 g7 key nonce first := ⟨h.k.drewN n, h.n.drewN n, h.r.drewN n, h.f.drewN n, below_drewN h.bel n⟩
theorem RB.set {w wr : World} {g3 g5 g6 g7 : Nat} {key nonce first : List Int} (h : RB w wr g3 g5 g6 g7 key nonce first) (h3 : g3 < g7) (h5 : g5 < g7) (h6 : g6 < g7) (hw : w.heap.size ≤ g7) (i : Nat) (x : Int) :
    RB w (wr.setCell ⟨g7, i, none⟩ (.int .u32 x)) g3 g5 g6 g7 key nonce (first.set i x) :=
  ⟨h.k.setOther (by simp; omega) _, h.n.setOther (by simp; omega) _, h.r.setOther (by simp; omega) _, h.f.setI i x, h.bel.setCell (by simp; omega) _⟩
theorem RB.below {w wr wx : World} {g3 g5 g6 g7 : Nat} {key nonce first : List Int} (h : RB w wr g3 g5 g6 g7 key nonce first) (hb : Below wr.heap.size wr wx) : RB w wx g3 g5 g6 g7 key nonce first :=
  ⟨h.k.belowAll hb, h.n.belowAll hb, h.r.belowAll hb, h.f.belowAll hb, below_then h.bel h.bel.size hb⟩
theorem RB.row {w wr : World} {g3 g5 g6 g7 g : Nat} {key nonce first : List Int} (h : RB w wr g3 g5 g6 g7 key nonce first) (h3 : g3 < g) (h5 : g5 < g) (h6 : g6 < g) (h7 : g7 < g) (hw : w.heap.size ≤ g) (cs : Array Value) :
    RB w (wr.setRow g cs) g3 g5 g6 g7 key nonce first :=
  ⟨h.k.setRowOther (by omega) _, h.n.setRowOther (by omega) _, h.r.setRowOther (by omega) _, h.f.setRowOther (by omega) _, below_setRow h.bel hw _⟩
theorem RB.setN {w wr : World} {g3 g5 g6 g7 : Nat} {key nonce first : List Int} (h : RB w wr g3 g5 g6 g7 key nonce first) (h3 : g3 < g7) (h5 : g5 < g7) (h6 : g6 < g7) (hw : w.heap.size ≤ g7) (i : Nat) (x : Int) (m : Nat) :
    RB w ((wr.drewN m).setCell ⟨g7, i, none⟩ (.int .u32 x)) g3 g5 g6 g7 key nonce (first.set i x) := (h.drewN m).set h3 h5 h6 hw i x
theorem sliceKey1 (w : World) (g i : Nat) (h : i < 8) :
    (Instr.sliceAt 27 (.pointer (some ⟨g, 0, none⟩)) (some (.int .i64 (4 * (i : Int)))) (some (.int .i64 (4 * (i : Int) + 4))) none).run Tryd.prog w = .ok (.slice (some ⟨g, 4 * i, none⟩) 4 (32 - 4 * i)) w := by
  have ha : Tryd.prog.arrayLen 27 = 32 := by kernel_rfl
  have hs : (sizeOf (Tryd.prog.elem 27)).run Tryd.prog w = .ok 1 w := by kernel_rfl
  rw [run_sliceAt_array_lh (P := Tryd.prog) w 27 ⟨g, 0, none⟩ (by kernel_rfl) .i64 .i64 _ _ (by omega) (by omega) (by rw [ha]; omega), hs, ha]
  have e1 : (4 * (i : Int)).toNat = 4 * i := by omega
  have e2 : (4 * (i : Int) + 4).toNat = 4 * i + 4 := by omega
  rw [e1, e2]
  simp only [Result.andThen, slicedAt]
  rw [if_neg (by omega), add_lit, Nat.mul_one, Nat.zero_add, show 4 * i + 4 - 4 * i = 4 by omega]
theorem sliceNonce1 (w : World) (g i : Nat) (h : i < 3) :
    (Instr.sliceAt 91 (.pointer (some ⟨g, 0, none⟩)) (some (.int .i64 (4 * (i : Int)))) (some (.int .i64 (4 * (i : Int) + 4))) none).run Tryd.prog w = .ok (.slice (some ⟨g, 4 * i, none⟩) 4 (12 - 4 * i)) w := by
  have ha : Tryd.prog.arrayLen 91 = 12 := by kernel_rfl
  have hs : (sizeOf (Tryd.prog.elem 91)).run Tryd.prog w = .ok 1 w := by kernel_rfl
  rw [run_sliceAt_array_lh (P := Tryd.prog) w 91 ⟨g, 0, none⟩ (by kernel_rfl) .i64 .i64 _ _ (by omega) (by omega) (by rw [ha]; omega), hs, ha]
  have e1 : (4 * (i : Int)).toNat = 4 * i := by omega
  have e2 : (4 * (i : Int) + 4).toNat = 4 * i + 4 := by omega
  rw [e1, e2]
  simp only [Result.andThen, slicedAt]
  rw [if_neg (by omega), add_lit, Nat.mul_one, Nat.zero_add, show 4 * i + 4 - 4 * i = 4 by omega]
/-- What they hold in the rounds. -/
structure RR (w wr : World) (g6 g7 g10 : Nat) (first s : List Int) : Prop where
  r : Blk wr g6 142 (ints .u8 (List.replicate 64 0))
  f : Blk wr g7 153 (ints .u32 first)
  s : Blk wr g10 153 (ints .u32 s)
  bel : Below w.heap.size w wr
theorem RR.next {w wr wx : World} {g6 g7 g10 : Nat} {first s : List Int} (h : RR w wr g6 g7 g10 first s) (hb : Below wr.heap.size wr wx) (hz : w.heap.size ≤ g6 ∧ g6 < g7 ∧ g7 < g10) (s' : List Int) :
    RR w (wx.setRow g10 (ints .u32 s').toArray) g6 g7 g10 first s' :=
  ⟨(h.r.belowAll hb).setRowOther (by omega) _, (h.f.belowAll hb).setRowOther (by omega) _, (h.s.belowAll hb).setRow _, below_setRow (below_then h.bel h.bel.size hb) (by omega) _⟩
/-- What they hold when the bytes are laid. -/
structure RO (w wr : World) (g6 g7 g10 g14 : Nat) (first s out : List Int) : Prop extends RR w wr g6 g7 g10 first s where
  o : Blk wr g14 142 (ints .u8 out)
theorem RO.next {w wr : World} {g6 g7 g10 g14 : Nat} {first s out : List Int} (h : RO w wr g6 g7 g10 g14 first s out) (hz : w.heap.size ≤ g6 ∧ g6 < g7 ∧ g7 < g10 ∧ g10 < g14) (i : Nat) (x : Int) :
    RO w (wr.setCell ⟨g14, i, none⟩ (.int .u8 x)).drew g6 g7 g10 g14 first s (out.set i x) :=
  ⟨⟨(h.r.setOther (by simp; omega) _).drew, (h.f.setOther (by simp; omega) _).drew, (h.s.setOther (by simp; omega) _).drew, (h.bel.setCell (by simp; omega) _).drew⟩, (h.o.setI i x).drew⟩
set_option maxHeartbeats 8000000 in
set_option maxRecDepth 100000 in
theorem block1_calls (key nonce : List Int) (c : Int) (w : World) (hk : key.length = 32) (hn : nonce.length = 12) (rk : bytesOk key) (rn : bytesOk nonce) (hc : 0 ≤ c ∧ c < 4294967296) :
    Calls Tryd.prog 89 #[.agg (ints .u8 key).toArray, .int .u32 c, .agg (ints .u8 nonce).toArray] w fun e w' => e = .returned (.agg (ints .u8 (block key c nonce)).toArray) ∧ Below w.heap.size w w' := by
  have HBL : Hd (outTo (rounds (firstN key c nonce 3) 10) (firstN key c nonce 3) 64 = block key c nonce) := hid rfl
  have HW : Hd (words (firstN key c nonce 3)) := hid (words_firstN key hc nonce 3)
  have HK := hid hk
  have HN := hid hn
  have HC := hid hc
  clear hk hn hc
  go_enter Tryd.func89, Tryd.ntmps89
  go_wp2_with (first
    | (refine box_blk rfl 27 _ rfl _ rfl (ints .u8 key) rfl ?_; intro g3 w1 hg3 hb3 hB1 hs1)
    | (refine box_blk rfl 91 _ rfl _ rfl (ints .u8 nonce) rfl ?_; intro g5 w2 hg5 hb5 hB2 hs2)
    | (refine alloc_blk rfl 142 rfl _ rfl (ints .u8 (List.replicate 64 0)) (by kernel_rfl) ?_; intro g6 w3 hg6 hb6 hB3 hs3)
    | (refine build_to rfl 153 _ rfl (ints .u32 (first0 0)).toArray (by kernel_rfl) ?_)
    | (refine alloc_blk rfl 153 rfl _ rfl (ints .u32 (List.replicate 16 0)) zeroA16 ?_; intro g7 w4 hg7 hb7 hB4 hs4)
    | (refine store_blk rfl 153 _ _ rfl g7 (ints .u32 (first0 0)) rfl rfl 153 _ hb7 16 info65 (by simp [ints, first0]) (by simp [ints]) (ints_one _ _) ?_)
    | fail)
  have hz3 : Hd (w.heap.size ≤ g3 ∧ w.heap.size ≤ g6 ∧ g3 < g5 ∧ g5 < g6 ∧ g6 < g7) := hid (by omega)
  have hR0 : RB w (w4.setRow g7 (ints .u32 (first0 0)).toArray) g3 g5 g6 g7 key nonce (firstK key 0 0) := by
    have hz := hz3.out
    refine ⟨?_, ?_, ?_, hb7.setRow _, below_setRow (below_then (below_then (below_then hB1 hB1.size hB2) (by omega) hB3) (by omega) hB4) (by omega) _⟩
    · exact (((hb3.belowAll hB2).belowAll hB3).belowAll hB4).setRowOther (by omega) _
    · exact ((hb5.belowAll hB3).belowAll hB4).setRowOther (by omega) _
    · exact (hb6.belowAll hB4).setRowOther (by omega) _
  clear hb3 hb5 hb6 hb7 hB1 hB2 hB3 hB4 hg3 hg5 hg6 hg7 hs1 hs2 hs3 hs4
  generalize w4.setRow g7 (ints .u32 (first0 0)).toArray = w5 at *
  go_loopg [8] 9 (fun kq v8 wr => ∃ i : Nat, i ≤ 8 ∧ v8 = .int .i64 i ∧ Hd (kq + i = 9) ∧ RB w wr g3 g5 g6 g7 key nonce (firstK key 0 i))
  case atStart => exact ⟨0, by omega, rfl, hid (by omega), hR0⟩
  case round =>
    clear hR0
    obtain ⟨i, hi, rfl, hq, hS⟩ := hrel
    by_cases hlt : i < 8
    · have hfc := hS.f.cellI (4 + i) (by rw [firstK_length]; omega)
      have hff := hS.f.frozen (4 + i)
      have hsl := sliceKey1 wr g3 i hlt
      have hz := hid hz3.out
      go_wp2_with (first
        | (go_at_call 102; refine (word1B_calls g3 (4 * i) (32 - 4 * i) _ key _ hS.k (by have := HK.out; omega) rk).mono ?_; rintro e w' ⟨rfl, m, rfl⟩; replace hfc : (wr.drewN m).cell? ⟨g7, 4 + i, none⟩ = _ := hfc; replace hff : (wr.drewN m).frozen? ⟨g7, 4 + i, none⟩ = _ := hff)
        | fail)
      go_roundg (gk - 1)
      case measure => have := hq.out; omega
      case rel => exact ⟨i + 1, by omega, by go_num, hid (by have := hq.out; omega), by rw [firstK_succ]; exact hS.setN (by have := hz.out; omega) (by have := hz.out; omega) (by have := hz.out; omega) (by have := hz.out; omega) (4 + i) _ m⟩
    · obtain rfl : i = 8 := by omega
      clear hq hi hlt
      have hfc := hS.f.cellI 12 (by rw [firstK_length]; omega)
      have hff := hS.f.frozen 12
      obtain ⟨hzA, hzB⟩ := hz3.out
      go_wp2_with (fail)
      have hS2 := hS.set (by omega) (by omega) (by omega) (by omega) 12 c
      rw [firstK_ctr key c 8 (by omega)] at hS2
      clear hS hfc hff
      obtain ⟨wo, rfl⟩ : ∃ wo : World, wo = wr := ⟨_, rfl⟩
      generalize wo.setCell ⟨g7, 12, none⟩ (.int .u32 c) = wn at *
      replace hS2 : RB w wn g3 g5 g6 g7 key nonce (firstN key c nonce 0) := hS2
      go_loopg [9] 4 (fun kq v9 wr => ∃ i : Nat, i ≤ 3 ∧ v9 = .int .i64 i ∧ Hd (kq + i = 4) ∧ RB w wr g3 g5 g6 g7 key nonce (firstN key c nonce i))
      case atStart => exact ⟨0, by omega, rfl, hid (by omega), hS2⟩
      case round =>
        clear hS2
        obtain ⟨i, hi, rfl, hq, hS⟩ := hrel
        by_cases hlt : i < 3
        · have hfc := hS.f.cellI (13 + i) (by rw [firstN_length]; omega)
          have hff := hS.f.frozen (13 + i)
          have hsl := sliceNonce1 wr g5 i hlt
          go_wp2_with (first
            | (go_at_call 102; refine (word1B_calls g5 (4 * i) (12 - 4 * i) _ nonce _ hS.n (by have := HN.out; omega) rn).mono ?_; rintro e w' ⟨rfl, m, rfl⟩; replace hfc : (wr.drewN m).cell? ⟨g7, 13 + i, none⟩ = _ := hfc; replace hff : (wr.drewN m).frozen? ⟨g7, 13 + i, none⟩ = _ := hff)
            | fail)
          go_roundg (gk - 1)
          case measure => have := hq.out; omega
          case rel => exact ⟨i + 1, by omega, by go_num, hid (by have := hq.out; omega), by rw [firstN_succ]; exact hS.setN (by omega) (by omega) (by omega) (by omega) (13 + i) _ m⟩
        · obtain rfl : i = 3 := by omega
          clear hq hi hlt
          have hlF : Hd ((ints .u32 (firstN key c nonce 3)).length = 16) := hid (by simpa using firstN_length key c nonce 3)
          have hw3 := HW.out
          generalize firstN key c nonce 3 = F at *
          go_wp2_with (first
            | (refine load_blk rfl 153 _ rfl g7 rfl 153 _ hS.f 16 29 arr65 hlF.out info65 ?_)
            | (refine alloc_blk rfl 153 rfl _ rfl (ints .u32 (List.replicate 16 0)) zeroA16 ?_; intro g10 w10 hg10 hb10 hB10 hs10)
            | (refine store_blk rfl 153 _ _ rfl g10 (ints .u32 F) rfl rfl 153 _ hb10 16 info65 hlF.out (by simp [ints]) (ints_one _ _) ?_)
            | fail)
          have hb7 := hS.f.lt
          have hz : Hd (w.heap.size ≤ g6 ∧ g6 < g7 ∧ g7 < g10) := hid (by omega)
          have hR : RR w (w10.setRow g10 (ints .u32 F).toArray) g6 g7 g10 F F :=
            ⟨(hS.r.belowAll hB10).setRowOther (by omega) _, (hS.f.belowAll hB10).setRowOther (by omega) _, hb10.setRow _, below_setRow (below_then hS.bel hS.bel.size hB10) (by omega) _⟩
          clear hS hb10 hB10 hg10 hs10 hb7 hzA hzB hz3
          have HL3 : Hd (F.length = 16) := hid (by simpa using hlF.out)
          clear hlF
          generalize w10.setRow g10 (ints .u32 F).toArray = w11 at *
          go_loopg [11] 11 (fun kq v11 wr => ∃ i : Nat, i ≤ 10 ∧ v11 = .int .i64 i ∧ Hd (kq + i = 11) ∧ RR w wr g6 g7 g10 F (rounds F i))
          case atStart => exact ⟨0, by omega, rfl, hid (by omega), hR⟩
          case round =>
            clear hR
            obtain ⟨i, hi, rfl, hq, hR⟩ := hrel
            obtain ⟨gk1, hgk⟩ : ∃ g : Nat, Hd (g = gk) := ⟨gk, hid rfl⟩
            by_cases hlt : i < 10
            · have hq1 : Hd (gk1 + i = 11) := hid (by rw [hgk.out]; exact hq.out)
              clear hq
              have hd1 : decide ((i : Int) < 10) = true := by simp; omega
              go_wp2_with (fail)
              obtain ⟨wo1, rfl⟩ : ∃ wo : World, wo = wr := ⟨_, rfl⟩
              go_loopg [12] 5 (fun kq v12 wr => ∃ j : Nat, j ≤ 4 ∧ v12 = .int .i64 j ∧ Hd (kq = 5 - j) ∧ RR w wr g6 g7 g10 F (cols (rounds F i) j))
              case atStart => exact ⟨0, by omega, rfl, hid rfl, by rw [cols_zero]; exact hR⟩
              case round =>
                clear hR
                obtain ⟨j, hj, rfl, hq2, hR⟩ := hrel
                by_cases hjlt : j < 4
                · have hlS : Hd ((cols (rounds F i) j).length = 16) := hid (by rw [cols_length, rounds_length]; exact HL3.out)
                  have hwS : Hd (words (cols (rounds F i) j)) := hid (words_cols (words_rounds hw3 i) j)
                  go_wp2_with (first
                    | (refine load_blk rfl 153 _ rfl g10 rfl 153 _ hR.s 16 29 arr65 (by simpa using hlS.out) info65 ?_)
                    | (go_at_call 103; refine (quarter1_calls j (4 + j) (8 + j) (12 + j) _ _ _ _ (cols (rounds F i) j) _ hlS.out (by omega) (by omega) (by omega) (by omega) hwS.out rfl (by omega) (by omega) (by omega)).mono ?_; rintro e wx ⟨rfl, hbx⟩)
                    | (refine store_blk rfl 153 _ _ rfl g10 (ints .u32 (quarter (cols (rounds F i) j) j (4 + j) (8 + j) (12 + j))) rfl rfl 153 _ (hR.s.belowAll hbx) 16 info65 (by simpa [quarter_length] using hlS.out) (by simpa using hlS.out) (ints_one _ _) ?_)
                    | fail)
                  go_roundg (gk - 1)
                  case measure => have := hq2.out; omega
                  case rel => exact ⟨j + 1, by omega, by go_num, hid (by have := hq2.out; omega), by rw [cols_succ]; exact hR.next hbx hz.out _⟩
                · have hj4 : (j : Int) = 4 := by omega
                  rw [hj4]
                  obtain rfl : j = 4 := by omega
                  clear hq2 hj hjlt hj4
                  go_wp2_with fail
                  obtain ⟨wo2, rfl⟩ : ∃ wo : World, wo = wr := ⟨_, rfl⟩
                  go_loopg [13] 5 (fun kq v13 wr => ∃ j : Nat, j ≤ 4 ∧ v13 = .int .i64 j ∧ Hd (kq = 5 - j) ∧ RR w wr g6 g7 g10 F (diags (cols (rounds F i) 4) j))
                  case atStart => exact ⟨0, by omega, rfl, hid rfl, by rw [diags_zero]; exact hR⟩
                  case round =>
                    clear hR
                    obtain ⟨j, hj, rfl, hq2, hR⟩ := hrel
                    by_cases hjlt : j < 4
                    · have hlS : Hd ((diags (cols (rounds F i) 4) j).length = 16) := hid (by rw [diags_length, cols_length, rounds_length]; exact HL3.out)
                      have hwS : Hd (words (diags (cols (rounds F i) 4) j)) := hid (words_diags (words_cols (words_rounds hw3 i) 4) j)
                      go_wp2_with (first
                        | (refine load_blk rfl 153 _ rfl g10 rfl 153 _ hR.s 16 29 arr65 (by simpa using hlS.out) info65 ?_)
                        | (go_at_call 103; refine (quarter1_calls j (4 + (j + 1) % 4) (8 + (j + 2) % 4) (12 + (j + 3) % 4) _ _ _ _ (diags (cols (rounds F i) 4) j) _ hlS.out (by omega) (by omega) (by omega) (by omega) hwS.out rfl (by omega) (by omega) (by omega)).mono ?_; rintro e wx ⟨rfl, hbx⟩)
                        | (refine store_blk rfl 153 _ _ rfl g10 (ints .u32 (quarter (diags (cols (rounds F i) 4) j) j (4 + (j + 1) % 4) (8 + (j + 2) % 4) (12 + (j + 3) % 4))) rfl rfl 153 _ (hR.s.belowAll hbx) 16 info65 (by simpa [quarter_length] using hlS.out) (by simpa using hlS.out) (ints_one _ _) ?_)
                        | fail)
                      go_roundg (gk - 1)
                      case measure => have := hq2.out; omega
                      case rel => exact ⟨j + 1, by omega, by go_num, hid (by have := hq2.out; omega), by rw [diags_succ]; exact hR.next hbx hz.out _⟩
                    · have hj4 : (j : Int) = 4 := by omega
                      rw [hj4]
                      obtain rfl : j = 4 := by omega
                      clear hq2 hj hjlt hj4
                      go_wp2_with fail
                      go_roundg (gk1 - 1)
                      case measure => have := hq1.out; have := hgk.out; omega
                      case rel => exact ⟨i + 1, by omega, by go_num, hid (by have := hq1.out; have := hgk.out; omega), by rw [rounds_succ]; exact hR⟩
            · obtain rfl : i = 10 := by omega
              clear hq hi hlt
              go_wp2_with (first
                | (refine alloc_blk rfl 142 rfl _ rfl (ints .u8 (List.replicate 64 0)) (by kernel_rfl) ?_; intro g14 w14 hg14 hb14 hB14 hs14)
                | fail)
              have hz : Hd (w.heap.size ≤ g6 ∧ g6 < g7 ∧ g7 < g10 ∧ g10 < g14) := hid (by have := hR.s.lt; have := hz.out; omega)
              have hO : RO w w14 g6 g7 g10 g14 F (rounds F 10) (outTo (rounds F 10) F 0) := ⟨⟨hR.r.belowAll hB14, hR.f.belowAll hB14, hR.s.belowAll hB14, below_then hR.bel hR.bel.size hB14⟩, hb14⟩
              clear hR hb14 hB14 hg14 hs14
              have hlS : (rounds F 10).length = 16 := by rw [rounds_length]; exact HL3.out
              have HLS := hid hlS
              clear hlS hw3 HW
              generalize rounds F 10 = S at hO HBL HLS
              go_loopg [15] 65 (fun kq v15 wr => ∃ i : Nat, i ≤ 64 ∧ v15 = .int .i64 i ∧ Hd (kq = 65 - i) ∧ RO w wr g6 g7 g10 g14 F S (outTo S F i))
              case atStart => exact ⟨0, by omega, rfl, hid rfl, hO⟩
              case round =>
                clear hO
                obtain ⟨i, hi, rfl, hq, hO⟩ := hrel
                by_cases hlt : i < 64
                · obtain ⟨q, r, hqr, hr, hq16⟩ : ∃ q r : Nat, Hd (i = 4 * q + r) ∧ r < 4 ∧ q < 16 := ⟨i / 4, i % 4, hid (by omega), by omega, by omega⟩
                  have cs := hO.s.cellI q (by have := HLS.out; omega)
                  have cf := hO.f.cellI q (by have := HL3.out; omega)
                  have co := hO.o.cellI i (by rw [outTo_length]; omega)
                  have fo := hO.o.frozen i
                  go_wp2_with fail
                  have a1 : IntKind.i64.wrap ((i : Int) / 4) = (q : Int) := by
                    have := hqr.out
                    rw [IntWalk.i64_in _ (by omega)]
                    omega
                  have a2 : (i : Int).tmod 4 = (r : Int) := by
                    have := hqr.out
                    rw [Int.tmod_eq_emod_of_nonneg (by omega)]
                    omega
                  have a3 : IntKind.i64.wrap (8 * (r : Int)) = 8 * (r : Int) := IntWalk.i64_in _ (by omega)
                  have a4 : 0 ≤ 8 * (r : Int) := by omega
                  have a5 : 8 * (r : Int) ≤ 32 := by omega
                  have a6 : (q : Int) < 16 := by omega
                  have a7 : (i : Int) < 64 := by omega
                  refine wp_region_still_tail 17 (by kernel_rfl) (by kernel_rfl) ?_
                  simp only [List.take_succ_cons, List.take_zero, List.drop_succ_cons, List.drop_zero]
                  change wpStill _ _ (World.drew _) (fun a' => wpList _ _ _ _ a' (World.drew _)) _ _
                  repeat still_step
                  refine wpStill_nil ?_
                  change wpList _ _ _ _ _ _
                  clear a1 a2 a3 a4 a5 a6
                  go_wp2_with fail
                  go_roundg (gk - 1)
                  case measure => have := hq.out; omega
                  case rel =>
                    refine ⟨i + 1, by omega, by go_num, hid (by have := hq.out; omega), ?_⟩
                    have hb := outByte_eq S F i q r hqr.out hr
                    have hn := hO.next hz.out i (outByte S F i)
                    rw [← outTo_succ, hb] at hn
                    rw [show min (8 * r) 32 = 8 * r by omega]
                    exact hn
                · obtain rfl : i = 64 := by omega
                  clear hq hi hlt
                  have hl64 : (ints .u8 (outTo S F 64)).length = 64 := by simpa using outTo_length S F 64
                  go_wp2_with (first
                    | (refine load_blk rfl 142 _ rfl g14 rfl 142 _ hO.o 64 5 arr44 hl64 info44 ?_)
                    | (refine store_blk rfl 142 _ _ rfl g6 _ rfl rfl 142 _ hO.r 64 info44 hl64 (by simp) (ints_one _ _) ?_))
                  refine bodyPost_ret (results_blk rfl _ _ g6 142 _ 64 5 rfl (hO.r.setRow _) arr44 hl64 info44) rfl ?_
                  exact ⟨by rw [HBL.out], below_setRow hO.bel (by have := hz.out; omega) _⟩
end Go.Proofs.YtlikinglgegclaaDoor
/- The reference's numbers of seventeen bytes: sums. -/
namespace Go.Proofs.YtlikinglgegclaaDoor
open Go.RowKit Go.Cour
/-- A word, as it is kept. -/
def m32 (x : Int) : Int := x % 4294967296
theorem and255w (x : Int) (h0 : 0 ≤ x) (h1 : x < 4294967296) : bits .and .u32 x 255 = x % 256 :=
  bits_mask .u32 32 (by decide) (fun n h0 h1 => by rw [IntKind.wrap_u32]; omega) 8 (by decide) x h0 (by simpa using h1)
theorem and3w (x : Int) (h0 : 0 ≤ x) (h1 : x < 4294967296) : bits .and .u32 x 3 = x % 4 :=
  bits_mask .u32 32 (by decide) (fun n h0 h1 => by rw [IntKind.wrap_u32]; omega) 2 (by decide) x h0 (by simpa using h1)
theorem m32_in (x : Int) : 0 ≤ m32 x ∧ m32 x < 4294967296 := ⟨Int.emod_nonneg _ (by decide), Int.emod_lt_of_pos _ (by decide)⟩
def pstep (c : List Int) (s : List Int × Int) (j : Nat) : List Int × Int := (s.1.set j (m32 (m32 (s.2 + rd s.1 j) + rd c j) % 256), m32 (m32 (s.2 + rd s.1 j) + rd c j) / 256)
def plusS (h c : List Int) (n : Nat) : List Int × Int := (List.range n).foldl (pstep c) (h, 0)
def plus1 (h c : List Int) : List Int := (plusS h c 17).1
theorem plusS_succ (h c : List Int) (n : Nat) : plusS h c (n + 1) = pstep c (plusS h c n) n := foldl_succ _ _ _
theorem plusS_length (h c : List Int) : ∀ n, (plusS h c n).1.length = h.length
  | 0 => rfl
  | n + 1 => by rw [plusS_succ]; simp only [pstep, List.length_set]; exact plusS_length h c n
theorem info88 : (Tryd.prog.info? 156).map (·.size) = some 17 := by kernel_rfl
theorem arr88 : Tryd.prog.underlying 156 = some (.array 17 29) := by kernel_rfl
theorem zeroA17w : ((Tryd.prog.info? 156).bind (·.zero)).map (·.cells) = some (ints .u32 (List.replicate 17 0)).toArray := by kernel_rfl
/-- What the blocks of a call hold. -/
structure PB (w wr : World) (g2 g3 g4 : Nat) (h c : List Int) : Prop where
  h : Blk wr g2 156 (ints .u32 h)
  c : Blk wr g3 156 (ints .u32 c)
  o : Blk wr g4 156 (ints .u32 (List.replicate 17 0))
  bel : Below w.heap.size w wr
theorem PB.set {w wr : World} {g2 g3 g4 : Nat} {h c : List Int} (H : PB w wr g2 g3 g4 h c) (hz : w.heap.size ≤ g2 ∧ g2 < g3 ∧ g3 < g4) (i : Nat) (x : Int) : PB w (wr.setCell ⟨g2, i, none⟩ (.int .u32 x)) g2 g3 g4 (h.set i x) c :=
  ⟨H.h.setI i x, H.c.setOther (by simp; omega) _, H.o.setOther (by simp; omega) _, H.bel.setCell (by simp; omega) _⟩
theorem PB.drewN {w wr : World} {g2 g3 g4 : Nat} {h c : List Int} (H : PB w wr g2 g3 g4 h c) (n : Nat) : PB w (wr.drewN n) g2 g3 g4 h c := ⟨H.h.drewN n, H.c.drewN n, H.o.drewN n, below_drewN H.bel n⟩
theorem PB.next {w wr : World} {g2 g3 g4 : Nat} {h c : List Int} (H : PB w wr g2 g3 g4 h c) (hz : w.heap.size ≤ g2 ∧ g2 < g3 ∧ g3 < g4) (n i : Nat) (x : Int) : PB w ((wr.drewN n).setCell ⟨g2, i, none⟩ (.int .u32 x)) g2 g3 g4 (h.set i x) c := (H.drewN n).set hz i x
set_option maxHeartbeats 2000000 in
set_option maxRecDepth 100000 in
theorem plus1_calls (h c : List Int) (w : World) (hh : h.length = 17) (hc : c.length = 17) :
    Calls Tryd.prog 105 #[.agg (ints .u32 h).toArray, .agg (ints .u32 c).toArray] w fun e w' => e = .returned (.agg (ints .u32 (plus1 h c)).toArray) ∧ Below w.heap.size w w' := by
  have HH := hid hh
  have HC := hid hc
  clear hh hc
  go_enter Tryd.func105, Tryd.ntmps105
  go_wp2_with (first
    | (have hx := HH; refine box_blk rfl 156 (.tmp 0) rfl _ rfl (ints .u32 h) rfl ?_; clear hx; intro g2 w1 hg2 hb2 hB1 hs1)
    | (refine box_blk rfl 156 (.tmp 1) rfl _ rfl (ints .u32 c) rfl ?_; intro g3 w2 hg3 hb3 hB2 hs2)
    | (refine alloc_blk rfl 156 rfl _ rfl (ints .u32 (List.replicate 17 0)) zeroA17w ?_; intro g4 w3 hg4 hb4 hB3 hs3)
    | fail)
  have hz : Hd (w.heap.size ≤ g2 ∧ g2 < g3 ∧ g3 < g4) := hid (by omega)
  have hX : PB w w3 g2 g3 g4 h c := ⟨(hb2.belowAll hB2).belowAll hB3, hb3.belowAll hB3, hb4, below_then (below_then hB1 hB1.size hB2) (by omega) hB3⟩
  clear hg2 hb2 hB1 hs1 hg3 hb3 hB2 hs2 hg4 hb4 hB3 hs3
  go_loopg [5, 6] 18 (fun kq v5 v6 wr => ∃ i : Nat, i ≤ 17 ∧ v6 = .int .i64 i ∧ v5 = .int .u32 (plusS h c i).2 ∧ Hd (kq + i = 18) ∧ PB w wr g2 g3 g4 (plusS h c i).1 c)
  case atStart => exact ⟨0, by omega, rfl, rfl, hid (by omega), hX⟩
  case round =>
    clear hX
    obtain ⟨i, hi, rfl, rfl, hgq, hX⟩ := hrel
    have hlen : Hd ((plusS h c i).1.length = 17) := hid (by rw [plusS_length]; exact HH.out)
    by_cases hlt : i < 17
    · have hE : Hd (plusS h c (i + 1) = pstep c (plusS h c i) i) := hid (plusS_succ h c i)
      obtain ⟨S, hS⟩ : ∃ S, Hd (plusS h c i = S) := ⟨_, hid rfl⟩
      rw [hS.out] at hX hlen hE ⊢
      have ch := hX.h.cellI i (by have := hlen.out; omega)
      have cc := hX.c.cellI i (by have := HC.out; omega)
      have fh := hX.h.frozen i
      have a1 : (i : Int) < 17 := by omega
      go_wp2_with fail
      go_quiet (fail)
      obtain ⟨Y, hY⟩ : ∃ Y, Hd (Y = ((S.2 + rd S.1 i) % 4294967296 + rd c i) % 4294967296) := ⟨_, hid rfl⟩
      rw [← hY.out]
      have hYb : 0 ≤ Y ∧ Y < 4294967296 := by rw [hY.out]; exact m32_in _
      have hE2 : Hd (pstep c S i = (S.1.set i (Y % 256), Y / 256)) := hid (by rw [hY.out]; rfl)
      go_wp2_with fail
      go_roundg (gk - 1)
      case measure => have := hgq.out; omega
      case rel =>
        refine ⟨i + 1, by omega, by go_num, ?_, hid (by have := hgq.out; omega), ?_⟩
        · rw [hE.out, hE2.out]
        · rw [hE.out, hE2.out]
          rw [and255w Y hYb.1 hYb.2]
          exact hX.next hz.out nq i (Y % 256)
    · obtain rfl : i = 17 := by omega
      clear hgq hi hlt
      obtain ⟨S, hS⟩ : ∃ S, Hd (plusS h c 17 = S) := ⟨_, hid rfl⟩
      have hP : Hd (plus1 h c = S.1) := hid (by rw [← hS.out]; rfl)
      rw [hS.out] at hX hlen
      have hl17 : (ints .u32 S.1).length = 17 := by simpa using hlen.out
      go_wp2_with (first
        | (refine load_blk rfl 156 _ rfl g2 rfl 156 _ hX.h 17 29 arr88 hl17 info88 ?_)
        | (refine store_blk rfl 156 _ _ rfl g4 (ints .u32 S.1) rfl rfl 156 _ hX.o 17 info88 hl17 (by simp) (ints_one _ _) ?_)
        | fail)
      refine bodyPost_ret (results_blk rfl _ _ g4 156 _ 17 29 rfl (hX.o.setRow _) arr88 hl17 info88) rfl ?_
      exact ⟨by rw [hP.out], below_setRow hX.bel (by have := hz.out; omega) _⟩
end Go.Proofs.YtlikinglgegclaaDoor
/- The reference's numbers of seventeen bytes: products. -/
namespace Go.Proofs.YtlikinglgegclaaDoor
open Go.RowKit Go.Cour
def termT (h r : List Int) (i j : Nat) : Int := if j ≤ i then m32 (rd h j * rd r (i - j)) else m32 (m32 (rd h j * 320) * rd r (i + 17 - j))
def accT (h r : List Int) (i : Nat) : Nat → Int
  | 0 => 0
  | n + 1 => m32 (accT h r i n + termT h r i n)
def xTo (h r : List Int) (n : Nat) : List Int := (List.range n).foldl (fun s i => s.set i (accT h r i 17)) (List.replicate 17 0)
theorem xTo_succ (h r : List Int) (n : Nat) : xTo h r (n + 1) = (xTo h r n).set n (accT h r n 17) := foldl_succ _ _ _
theorem xTo_length (h r : List Int) : ∀ n, (xTo h r n).length = 17
  | 0 => by simp [xTo]
  | n + 1 => by rw [xTo_succ, List.length_set]; exact xTo_length h r n
theorem rd_xTo (h r : List Int) (i : Nat) : ∀ n, rd (xTo h r n) i = if i < n ∧ i < 17 then accT h r i 17 else 0
  | 0 => by
    rw [if_neg (by omega)]
    unfold xTo rd
    rw [List.range_zero, List.foldl_nil, List.getD_eq_getElem?_getD, List.getElem?_replicate]
    split <;> rfl
  | n + 1 => by
    rw [xTo_succ, rd_set', xTo_length, rd_xTo h r i n]
    by_cases h1 : n = i
    · subst h1
      by_cases h2 : n < 17
      · rw [if_pos ⟨rfl, h2⟩, if_pos ⟨by omega, h2⟩]
      · rw [if_neg (by omega), if_neg (by omega), if_neg (by omega)]
    · rw [if_neg (by omega)]
      by_cases h2 : i < n ∧ i < 17
      · rw [if_pos h2, if_pos ⟨by omega, h2.2⟩]
      · rw [if_neg h2, if_neg (by omega)]
theorem set_rd (xs : List Int) (i : Nat) (h : i < xs.length) : xs.set i (rd xs i) = xs := by
  apply List.ext_getElem (by simp)
  intro j h1 h2
  rw [List.getElem_set]
  split
  · rename_i he
    subst he
    simp [rd, h]
  · rfl
theorem m32_add (y z : Int) : m32 (y + m32 z) = (y + z) % 4294967296 := by unfold m32; omega
def cstep (s : List Int × Int) (j : Nat) : List Int × Int := (s.1.set j (m32 (s.2 + rd s.1 j) % 256), m32 (s.2 + rd s.1 j) / 256)
def carT (s : List Int × Int) (n : Nat) : List Int × Int := (List.range n).foldl cstep s
theorem carT_succ (s : List Int × Int) (n : Nat) : carT s (n + 1) = cstep (carT s n) n := foldl_succ _ _ _
theorem carT_length (s : List Int × Int) : ∀ n, (carT s n).1.length = s.1.length
  | 0 => rfl
  | n + 1 => by rw [carT_succ]; simp only [cstep, List.length_set]; exact carT_length s n
def midT (s : List Int × Int) : List Int × Int := (s.1.set 16 (m32 (s.2 + rd s.1 16) % 4), m32 (5 * (m32 (s.2 + rd s.1 16) / 4)))
def endT (s : List Int × Int) : List Int := s.1.set 16 (m32 (rd s.1 16 + s.2))
def timesT (h r : List Int) : List Int := endT (carT (midT (carT (xTo h r 17, 0) 16)) 16)
/-- What the blocks of a call hold. -/
structure TB (w wr : World) (g2 g3 g4 g5 : Nat) (h r x : List Int) : Prop where
  h : Blk wr g2 156 (ints .u32 h)
  r : Blk wr g3 156 (ints .u32 r)
  o : Blk wr g4 156 (ints .u32 (List.replicate 17 0))
  x : Blk wr g5 156 (ints .u32 x)
  bel : Below w.heap.size w wr
theorem TB.set {w wr : World} {g2 g3 g4 g5 : Nat} {h r x : List Int} (H : TB w wr g2 g3 g4 g5 h r x) (hz : w.heap.size ≤ g2 ∧ g2 < g3 ∧ g3 < g4 ∧ g4 < g5) (i : Nat) (v : Int) : TB w (wr.setCell ⟨g5, i, none⟩ (.int .u32 v)) g2 g3 g4 g5 h r (x.set i v) :=
  ⟨H.h.setOther (by simp; omega) _, H.r.setOther (by simp; omega) _, H.o.setOther (by simp; omega) _, H.x.setI i v, H.bel.setCell (by simp; omega) _⟩
theorem TB.drew {w wr : World} {g2 g3 g4 g5 : Nat} {h r x : List Int} (H : TB w wr g2 g3 g4 g5 h r x) : TB w wr.drew g2 g3 g4 g5 h r x := ⟨H.h.drew, H.r.drew, H.o.drew, H.x.drew, below_drewN H.bel 1⟩
set_option maxHeartbeats 8000000 in
set_option maxRecDepth 100000 in
theorem times1_calls (h r : List Int) (w : World) (hh : h.length = 17) (hr : r.length = 17) :
    Calls Tryd.prog 104 #[.agg (ints .u32 h).toArray, .agg (ints .u32 r).toArray] w fun e w' => e = .returned (.agg (ints .u32 (timesT h r)).toArray) ∧ Below w.heap.size w w' := by
  have HH := hid hh
  have HR := hid hr
  have HE : Hd (endT (carT (midT (carT (xTo h r 17, 0) 16)) 16) = timesT h r) := hid rfl
  clear hh hr
  go_enter Tryd.func104, Tryd.ntmps104
  go_wp2_with (first
    | (have hx := HH; refine box_blk rfl 156 (.tmp 0) rfl _ rfl (ints .u32 h) rfl ?_; clear hx; intro g2 w1 hg2 hb2 hB1 hs1)
    | (refine box_blk rfl 156 (.tmp 1) rfl _ rfl (ints .u32 r) rfl ?_; intro g3 w2 hg3 hb3 hB2 hs2)
    | (have hx := hb4; refine alloc_blk rfl 156 rfl _ rfl (ints .u32 (List.replicate 17 0)) zeroA17w ?_; clear hx; intro g5 w4 hg5 hb5 hB4 hs4)
    | (refine alloc_blk rfl 156 rfl _ rfl (ints .u32 (List.replicate 17 0)) zeroA17w ?_; intro g4 w3 hg4 hb4 hB3 hs3)
    | fail)
  have hz : Hd (w.heap.size ≤ g2 ∧ g2 < g3 ∧ g3 < g4 ∧ g4 < g5) := hid (by omega)
  have hX : TB w w4 g2 g3 g4 g5 h r (xTo h r 0) := ⟨((hb2.belowAll hB2).belowAll hB3).belowAll hB4, (hb3.belowAll hB3).belowAll hB4, hb4.belowAll hB4, hb5, below_then (below_then (below_then hB1 hB1.size hB2) (by omega) hB3) (by omega) hB4⟩
  clear hg2 hb2 hB1 hs1 hg3 hb3 hB2 hs2 hg4 hb4 hB3 hs3 hg5 hb5 hB4 hs4
  go_loopg [6] 18 (fun kq v6 wr => ∃ i : Nat, i ≤ 17 ∧ v6 = .int .i64 i ∧ Hd (kq + i = 18) ∧ TB w wr g2 g3 g4 g5 h r (xTo h r i))
  case atStart => exact ⟨0, by omega, rfl, hid (by omega), hX⟩
  case round =>
    clear hX
    obtain ⟨i, hi, rfl, hq, hX⟩ := hrel
    obtain ⟨gk1, hgk⟩ : ∃ g : Nat, Hd (g = gk) := ⟨gk, hid rfl⟩
    by_cases hlt : i < 17
    · have hq1 : Hd (gk1 + i = 18) := hid (by rw [hgk.out]; exact hq.out)
      clear hq
      have a1 : (i : Int) < 17 := by omega
      have hd1 : decide ((i : Int) < 17) = true := by simp; omega
      have hs0 : (xTo h r i).set i (accT h r i 0) = xTo h r i := by
        have h0 : rd (xTo h r i) i = 0 := by rw [rd_xTo, if_neg (by omega)]
        have := set_rd (xTo h r i) i (by rw [xTo_length]; omega)
        rw [h0] at this
        exact this
      rw [← hs0] at hX
      clear hs0
      have hE : Hd ((xTo h r i).set i (accT h r i 17) = xTo h r (i + 1)) := hid (xTo_succ h r i).symm
      have hlen : Hd ((xTo h r i).length = 17) := hid (xTo_length h r i)
      generalize xTo h r i = X at hX hE hlen
      go_wp2_with (fail)
      obtain ⟨wo1, rfl⟩ : ∃ wo : World, wo = wr := ⟨_, rfl⟩
      go_loopg [7] 18 (fun kq v7 wr => ∃ j : Nat, j ≤ 17 ∧ v7 = .int .i64 j ∧ Hd (kq + j = 18) ∧ TB w wr g2 g3 g4 g5 h r (X.set i (accT h r i j)))
      case atStart => exact ⟨0, by omega, rfl, hid (by omega), hX⟩
      case round =>
        clear hX
        obtain ⟨j, hj, rfl, hq, hX⟩ := hrel
        by_cases hjlt : j < 17
        · have a2 : (j : Int) < 17 := by omega
          have cx := hX.x.cellI i (by simpa [hlen.out] using hlt)
          have fx := hX.x.frozen i
          have ch := hX.h.cellI j (by have := HH.out; omega)
          have hxe : rd (X.set i (accT h r i j)) i = accT h r i j := by rw [rd_set', if_pos ⟨rfl, by rw [hlen.out]; exact hlt⟩]
          rw [hxe] at cx
          clear hxe
          have hnx : Hd (accT h r i (j + 1) = m32 (accT h r i j + termT h r i j)) := hid rfl
          generalize accT h r i j = Y at *
          obtain ⟨Hj, hHj⟩ : ∃ x, Hd (rd h j = x) := ⟨_, hid rfl⟩
          rw [hHj.out] at ch
          by_cases hle : j ≤ i
          · have a3 : (j : Int) ≤ i := by omega
            have cr := hX.r.cellI (i - j) (by have := HR.out; omega)
            obtain ⟨R, hR⟩ : ∃ x, Hd (rd r (i - j) = x) := ⟨_, hid rfl⟩
            rw [hR.out] at cr
            obtain ⟨d, hdd⟩ : ∃ d, Hd (d = i - j) := ⟨_, hid rfl⟩
            rw [← hdd.out] at cr
            have a4 : (i : Int) - j = d := by have := hdd.out; omega
            have a5 : (d : Int) < 17 := by omega
            have a6 : IntKind.i64.wrap (d : Int) = (d : Int) := IntWalk.i64_in _ (by omega)
            have hte : Hd (termT h r i j = m32 (Hj * R)) := hid (by unfold termT; rw [if_pos hle, hHj.out, hR.out])
            go_wp2_with fail
            refine wp_region_still_tail 15 (by kernel_rfl) (by kernel_rfl) ?_
            simp only [List.take_succ_cons, List.take_zero, List.drop_succ_cons, List.drop_zero]
            change wpStill _ _ (World.drew _) (fun a' => wpList _ _ _ _ a' (World.drew _)) _ _
            repeat still_step
            refine wpStill_nil ?_
            change wpList _ _ _ _ _ _
            go_wp2_with fail
            go_roundg (gk - 1)
            case measure => have := hq.out; omega
            case rel =>
              refine ⟨j + 1, by omega, by go_num, hid (by have := hq.out; omega), ?_⟩
              rw [hnx.out, hte.out]
              rw [m32_add]
              have := (hX.set hz.out i ((Y + Hj * R) % 4294967296)).drew
              rw [List.set_set] at this
              exact this
          · have a3 : ¬ ((j : Int) ≤ i) := by omega
            have cr := hX.r.cellI (i + 17 - j) (by have := HR.out; omega)
            obtain ⟨R, hR⟩ : ∃ x, Hd (rd r (i + 17 - j) = x) := ⟨_, hid rfl⟩
            rw [hR.out] at cr
            obtain ⟨d, hdd⟩ : ∃ d, Hd (d = i + 17 - j) := ⟨_, hid rfl⟩
            rw [← hdd.out] at cr
            have a4 : (i : Int) + 17 - j = d := by have := hdd.out; omega
            have a5 : (d : Int) < 17 := by have := hdd.out; omega
            have a6 : IntKind.i64.wrap (d : Int) = (d : Int) := IntWalk.i64_in _ (by omega)
            have a7 : IntKind.i64.wrap ((i : Int) + 17) = (i : Int) + 17 := IntWalk.i64_in _ (by omega)
            have hte : Hd (termT h r i j = m32 (m32 (Hj * 320) * R)) := hid (by unfold termT; rw [if_neg hle, hHj.out, hR.out])
            go_wp2_with fail
            refine wp_region_still_tail 17 (by kernel_rfl) (by kernel_rfl) ?_
            simp only [List.take_succ_cons, List.take_zero, List.drop_succ_cons, List.drop_zero]
            change wpStill _ _ (World.drew _) (fun a' => wpList _ _ _ _ a' (World.drew _)) _ _
            repeat still_step
            refine wpStill_nil ?_
            change wpList _ _ _ _ _ _
            go_wp2_with fail
            go_roundg (gk - 1)
            case measure => have := hq.out; omega
            case rel =>
              refine ⟨j + 1, by omega, by go_num, hid (by have := hq.out; omega), ?_⟩
              rw [hnx.out, hte.out]
              rw [m32_add]
              have := (hX.set hz.out i ((Y + Hj * 320 % 4294967296 * R) % 4294967296)).drew
              rw [List.set_set] at this
              exact this
        · obtain rfl : j = 17 := by omega
          clear hq hj hjlt
          rw [hE.out] at hX
          go_wp2_with fail
          go_roundg (gk1 - 1)
          case measure => have := hq1.out; have := hgk.out; omega
          case rel => exact ⟨i + 1, by omega, by go_num, hid (by have := hq1.out; have := hgk.out; omega), hX⟩
    · obtain rfl : i = 17 := by omega
      clear hq hi hlt
      go_wp2_with fail
      have hlX : Hd ((xTo h r 17).length = 17) := hid (xTo_length h r 17)
      generalize xTo h r 17 = X at hX HE hlX
      obtain ⟨wo1, rfl⟩ : ∃ wo : World, wo = wr := ⟨_, rfl⟩
      go_loopg [8, 9] 17 (fun kq v8 v9 wr => ∃ j : Nat, j ≤ 16 ∧ v9 = .int .i64 j ∧ v8 = .int .u32 (carT (X, 0) j).2 ∧ Hd (kq + j = 17) ∧ TB w wr g2 g3 g4 g5 h r (carT (X, 0) j).1)
      case atStart => exact ⟨0, by omega, rfl, rfl, hid (by omega), hX⟩
      case round =>
        clear hX
        obtain ⟨j, hj, rfl, rfl, hq, hX⟩ := hrel
        have hlC : Hd ((carT (X, 0) j).1.length = 17) := hid (by rw [carT_length]; exact hlX.out)
        by_cases hjlt : j < 16
        · have hE : Hd (carT (X, 0) (j + 1) = cstep (carT (X, 0) j) j) := hid (carT_succ _ _)
          generalize carT (X, 0) j = S at hX hlC hE ⊢
          have cx := hX.x.cellI j (by have := hlC.out; omega)
          have fx := hX.x.frozen j
          have a1 : (j : Int) < 17 := by omega
          obtain ⟨Y, hY⟩ : ∃ Y, Hd (Y = (S.2 + rd S.1 j) % 4294967296) := ⟨_, hid rfl⟩
          have hYb : 0 ≤ Y ∧ Y < 4294967296 := by rw [hY.out]; exact m32_in _
          have hE2 : Hd (cstep S j = (S.1.set j (Y % 256), Y / 256)) := hid (by rw [hY.out]; rfl)
          go_wp2_with fail
          rw [← hY.out]
          go_roundg (gk - 1)
          case measure => have := hq.out; omega
          case rel =>
            refine ⟨j + 1, by omega, by go_num, ?_, hid (by have := hq.out; omega), ?_⟩
            · rw [hE.out, hE2.out]
            · rw [hE.out, hE2.out]
              rw [and255w Y hYb.1 hYb.2]
              exact hX.set hz.out j (Y % 256)
        · obtain rfl : j = 16 := by omega
          clear hq hj hjlt
          generalize hSe : carT (X, 0) 16 = S at hX hlC HE ⊢
          have cx := hX.x.cellI 16 (by have := hlC.out; omega)
          have fx := hX.x.frozen 16
          obtain ⟨Y, hY⟩ : ∃ Y, Hd (Y = (S.2 + rd S.1 16) % 4294967296) := ⟨_, hid rfl⟩
          have hYb : 0 ≤ Y ∧ Y < 4294967296 := by rw [hY.out]; exact m32_in _
          have hE2 : Hd (midT S = (S.1.set 16 (Y % 4), m32 (5 * (Y / 4)))) := hid (by rw [hY.out]; rfl)
          go_wp2_with fail
          rw [← hY.out, and3w Y hYb.1 hYb.2]
          replace hX := hX.set hz.out 16 (Y % 4)
          generalize hV : (5 * (Y / 4)) % 4294967296 = V
          replace hE2 : Hd (midT S = (S.1.set 16 (Y % 4), V)) := hid (by rw [hE2.out, ← hV]; rfl)
          rw [hE2.out] at HE
          replace hlC : Hd ((S.1.set 16 (Y % 4)).length = 17) := hid (by rw [List.length_set]; exact hlC.out)
          generalize S.1.set 16 (Y % 4) = Z at hX HE hlC
          obtain ⟨wo2, rfl⟩ : ∃ wo : World, wo = wr := ⟨_, rfl⟩
          generalize wo2.setCell ⟨g5, 16, none⟩ (.int .u32 (Y % 4)) = wn at hX ⊢
          go_loopg [8, 10] 17 (fun kq v8 v10 wr => ∃ j : Nat, j ≤ 16 ∧ v10 = .int .i64 j ∧ v8 = .int .u32 (carT (Z, V) j).2 ∧ Hd (kq + j = 17) ∧ TB w wr g2 g3 g4 g5 h r (carT (Z, V) j).1)
          case atStart => exact ⟨0, by omega, rfl, rfl, hid (by omega), hX⟩
          case round =>
            clear hX cx fx hY hYb hE2 hV hSe
            obtain ⟨j, hj, rfl, rfl, hq, hX⟩ := hrel
            have hlD : Hd ((carT (Z, V) j).1.length = 17) := hid (by rw [carT_length]; exact hlC.out)
            by_cases hjlt : j < 16
            · have hE : Hd (carT (Z, V) (j + 1) = cstep (carT (Z, V) j) j) := hid (carT_succ _ _)
              generalize carT (Z, V) j = T at hX hlD hE ⊢
              have cx := hX.x.cellI j (by have := hlD.out; omega)
              have fx := hX.x.frozen j
              have a1 : (j : Int) < 17 := by omega
              obtain ⟨Y1, hY⟩ : ∃ Y, Hd (Y = (T.2 + rd T.1 j) % 4294967296) := ⟨_, hid rfl⟩
              have hYb : 0 ≤ Y1 ∧ Y1 < 4294967296 := by rw [hY.out]; exact m32_in _
              have hE2 : Hd (cstep T j = (T.1.set j (Y1 % 256), Y1 / 256)) := hid (by rw [hY.out]; rfl)
              go_wp2_with fail
              rw [← hY.out]
              go_roundg (gk - 1)
              case measure => have := hq.out; omega
              case rel =>
                refine ⟨j + 1, by omega, by go_num, ?_, hid (by have := hq.out; omega), ?_⟩
                · rw [hE.out, hE2.out]
                · rw [hE.out, hE2.out]
                  rw [and255w Y1 hYb.1 hYb.2]
                  exact hX.set hz.out j (Y1 % 256)
            · obtain rfl : j = 16 := by omega
              clear hq hj hjlt
              generalize hTe : carT (Z, V) 16 = T at hX hlD HE ⊢
              have cx := hX.x.cellI 16 (by have := hlD.out; omega)
              have fx := hX.x.frozen 16
              have hE3 : Hd (timesT h r = T.1.set 16 ((rd T.1 16 + T.2) % 4294967296)) := hid HE.out.symm
              have hX2 := hX.set hz.out 16 ((rd T.1 16 + T.2) % 4294967296)
              have hl17 : Hd ((ints .u32 (T.1.set 16 ((rd T.1 16 + T.2) % 4294967296))).length = 17) := hid (by simpa using hlD.out)
              go_wp2_with (first
                | (refine load_blk rfl 156 _ rfl g5 rfl 156 _ hX2.x 17 29 arr88 hl17.out info88 ?_)
                | (refine store_blk rfl 156 _ _ rfl g4 (ints .u32 (T.1.set 16 ((rd T.1 16 + T.2) % 4294967296))) rfl rfl 156 _ hX2.o 17 info88 hl17.out (by simp) (ints_one _ _) ?_)
                | fail)
              refine bodyPost_ret (results_blk rfl _ _ g4 156 _ 17 29 rfl (hX2.o.setRow _) arr88 hl17.out info88) rfl ?_
              exact ⟨by rw [hE3.out], below_setRow hX2.bel (by have := hz.out; omega) _⟩
end Go.Proofs.YtlikinglgegclaaDoor
/- The tag's numbers: five parts as one number: carry, product. -/
namespace Go.Proofs.YtlikinglgegclaaDoor
open Go.RowKit Go.Cour
/-- The modulus. -/
def pP : Int := 1361129467683753853853498429727072845819
/-- Five parts of 26 bits as one number. -/
def val5 (a : List Int) : Int := rd a 0 + rd a 1 * 67108864 + rd a 2 * 4503599627370496 + rd a 3 * 302231454903657293676544 + rd a 4 * 20282409603651670423947251286016
theorem u64_in (x : Int) (h : 0 ≤ x ∧ x < 18446744073709551616) : u64 x = x := by
  rw [u64, IntKind.wrap_u64]; omega
theorem list5 (a : List Int) (h : a.length = 5) : a = [rd a 0, rd a 1, rd a 2, rd a 3, rd a 4] := by
  match a, h with
  | [a0, a1, a2, a3, a4], _ => rfl
theorem carry1_0 (x0 x1 x2 x3 x4 o : Int) (h : 0 ≤ x0 + o ∧ x0 + o < 18446744073709551616) : carry1 ([x0, x1, x2, x3, x4], o) 0 = ([(x0 + o) % 67108864, x1, x2, x3, x4], (x0 + o) / 67108864) := by
  have h1 : carry1 ([x0, x1, x2, x3, x4], o) 0 = ([low26 (u64 (x0 + o)), x1, x2, x3, x4], u64 (x0 + o) / 67108864) := rfl
  rw [h1, u64_in _ h, low26_eq _ h.1 h.2]
theorem carry1_1 (x0 x1 x2 x3 x4 o : Int) (h : 0 ≤ x1 + o ∧ x1 + o < 18446744073709551616) : carry1 ([x0, x1, x2, x3, x4], o) 1 = ([x0, (x1 + o) % 67108864, x2, x3, x4], (x1 + o) / 67108864) := by
  have h1 : carry1 ([x0, x1, x2, x3, x4], o) 1 = ([x0, low26 (u64 (x1 + o)), x2, x3, x4], u64 (x1 + o) / 67108864) := rfl
  rw [h1, u64_in _ h, low26_eq _ h.1 h.2]
theorem carry1_2 (x0 x1 x2 x3 x4 o : Int) (h : 0 ≤ x2 + o ∧ x2 + o < 18446744073709551616) : carry1 ([x0, x1, x2, x3, x4], o) 2 = ([x0, x1, (x2 + o) % 67108864, x3, x4], (x2 + o) / 67108864) := by
  have h1 : carry1 ([x0, x1, x2, x3, x4], o) 2 = ([x0, x1, low26 (u64 (x2 + o)), x3, x4], u64 (x2 + o) / 67108864) := rfl
  rw [h1, u64_in _ h, low26_eq _ h.1 h.2]
theorem carry1_3 (x0 x1 x2 x3 x4 o : Int) (h : 0 ≤ x3 + o ∧ x3 + o < 18446744073709551616) : carry1 ([x0, x1, x2, x3, x4], o) 3 = ([x0, x1, x2, (x3 + o) % 67108864, x4], (x3 + o) / 67108864) := by
  have h1 : carry1 ([x0, x1, x2, x3, x4], o) 3 = ([x0, x1, x2, low26 (u64 (x3 + o)), x4], u64 (x3 + o) / 67108864) := rfl
  rw [h1, u64_in _ h, low26_eq _ h.1 h.2]
theorem carry1_4 (x0 x1 x2 x3 x4 o : Int) (h : 0 ≤ x4 + o ∧ x4 + o < 18446744073709551616) : carry1 ([x0, x1, x2, x3, x4], o) 4 = ([x0, x1, x2, x3, (x4 + o) % 67108864], (x4 + o) / 67108864) := by
  have h1 : carry1 ([x0, x1, x2, x3, x4], o) 4 = ([x0, x1, x2, x3, low26 (u64 (x4 + o))], u64 (x4 + o) / 67108864) := rfl
  rw [h1, u64_in _ h, low26_eq _ h.1 h.2]
/-- One round: the same number but for the modulus, smaller parts. -/
theorem carryRound_val (a : List Int) (hl : a.length = 5) (h : ∀ i, i < 5 → 0 ≤ rd a i ∧ rd a i < 4611686018427387904) :
    ∃ o : Int, 0 ≤ o ∧ val5 (carryRound a) = val5 a - o * pP ∧ (0 ≤ rd (carryRound a) 0 ∧ rd (carryRound a) 0 < 67108864 + 5 * o) ∧ (∀ i, 1 ≤ i → i < 5 → 0 ≤ rd (carryRound a) i ∧ rd (carryRound a) i < 67108864) ∧
      o * 67108864 ≤ rd a 4 + (rd a 3 + 137438953472) / 67108864 := by
  have h0 := h 0 (by omega)
  have h1 := h 1 (by omega)
  have h2 := h 2 (by omega)
  have h3 := h 3 (by omega)
  have h4 := h 4 (by omega)
  generalize ha0 : rd a 0 = a0 at *
  generalize ha1 : rd a 1 = a1 at *
  generalize ha2 : rd a 2 = a2 at *
  generalize ha3 : rd a 3 = a3 at *
  generalize ha4 : rd a 4 = a4 at *
  have ha : a = [a0, a1, a2, a3, a4] := by rw [list5 a hl, ha0, ha1, ha2, ha3, ha4]
  obtain ⟨o0, ho0⟩ : ∃ o, o = a0 / 67108864 := ⟨_, rfl⟩
  obtain ⟨o1, ho1⟩ : ∃ o, o = (a1 + o0) / 67108864 := ⟨_, rfl⟩
  obtain ⟨o2, ho2⟩ : ∃ o, o = (a2 + o1) / 67108864 := ⟨_, rfl⟩
  obtain ⟨o3, ho3⟩ : ∃ o, o = (a3 + o2) / 67108864 := ⟨_, rfl⟩
  obtain ⟨o4, ho4⟩ : ∃ o, o = (a4 + o3) / 67108864 := ⟨_, rfl⟩
  have hc : carryTo a 5 = ([a0 % 67108864, (a1 + o0) % 67108864, (a2 + o1) % 67108864, (a3 + o2) % 67108864, (a4 + o3) % 67108864], o4) := by
    have e : carryTo a 5 = carry1 (carry1 (carry1 (carry1 (carry1 (a, 0) 0) 1) 2) 3) 4 := rfl
    rw [e, ha, carry1_0 _ _ _ _ _ _ (by omega), Int.add_zero, ← ho0, carry1_1 _ _ _ _ _ _ (by omega), ← ho1, carry1_2 _ _ _ _ _ _ (by omega), ← ho2, carry1_3 _ _ _ _ _ _ (by omega), ← ho3, carry1_4 _ _ _ _ _ _ (by omega), ← ho4]
  have hr : carryRound a = [a0 % 67108864 + 5 * o4, (a1 + o0) % 67108864, (a2 + o1) % 67108864, (a3 + o2) % 67108864, (a4 + o3) % 67108864] := by
    unfold carryRound
    rw [hc]
    have e : ∀ x, ([a0 % 67108864, (a1 + o0) % 67108864, (a2 + o1) % 67108864, (a3 + o2) % 67108864, (a4 + o3) % 67108864] : List Int).set 0 x = [x, (a1 + o0) % 67108864, (a2 + o1) % 67108864, (a3 + o2) % 67108864, (a4 + o3) % 67108864] := fun x => rfl
    have e0 : rd ([a0 % 67108864, (a1 + o0) % 67108864, (a2 + o1) % 67108864, (a3 + o2) % 67108864, (a4 + o3) % 67108864] : List Int) 0 = a0 % 67108864 := rfl
    rw [e, e0, u64_in (5 * o4) (by omega), u64_in _ (by omega)]
  have r0 : rd (carryRound a) 0 = a0 % 67108864 + 5 * o4 := by rw [hr]; rfl
  have r1 : rd (carryRound a) 1 = (a1 + o0) % 67108864 := by rw [hr]; rfl
  have r2 : rd (carryRound a) 2 = (a2 + o1) % 67108864 := by rw [hr]; rfl
  have r3 : rd (carryRound a) 3 = (a3 + o2) % 67108864 := by rw [hr]; rfl
  have r4 : rd (carryRound a) 4 = (a4 + o3) % 67108864 := by rw [hr]; rfl
  refine ⟨o4, by omega, ?_, by rw [r0]; omega, fun i hi hi5 => ?_, by omega⟩
  · unfold val5 pP
    rw [r0, r1, r2, r3, r4, ha0, ha1, ha2, ha3, ha4]
    omega
  · have hh : i = 1 ∨ i = 2 ∨ i = 3 ∨ i = 4 := by omega
    rcases hh with rfl | rfl | rfl | rfl
    · rw [r1]; omega
    · rw [r2]; omega
    · rw [r3]; omega
    · rw [r4]; omega
end Go.Proofs.YtlikinglgegclaaDoor
/- The tag's numbers: carried twice; a product. -/
namespace Go.Proofs.YtlikinglgegclaaDoor
open Go.RowKit Go.Cour
/-- Parts that are nearly carried: the first may be a little too much. -/
structure Near (a : List Int) : Prop where
  len : a.length = 5
  lo : 0 ≤ rd a 0 ∧ rd a 0 < 67108869
  hi : ∀ i, 1 ≤ i → i < 5 → 0 ≤ rd a i ∧ rd a i < 67108864
theorem carry2_val (a : List Int) (hl : a.length = 5) (h : ∀ i, i < 5 → 0 ≤ rd a i ∧ rd a i < 4611686018427387904) :
    (∃ o : Int, 0 ≤ o ∧ val5 (carryN a 2) = val5 a - o * pP) ∧ Near (carryN a 2) := by
  have e : carryN a 2 = carryRound (carryRound a) := (carryN_succ a 1).trans (congrArg carryRound ((carryN_succ a 0).trans (congrArg carryRound (carryN_zero a))))
  obtain ⟨o, ho, hv, hb0, hb, hob⟩ := carryRound_val a hl h
  have h3 := h 3 (by omega)
  have h4 := h 4 (by omega)
  have hb1 := hb 1 (by omega) (by omega)
  have hb2 := hb 2 (by omega) (by omega)
  have hb3 := hb 3 (by omega) (by omega)
  have hb4 := hb 4 (by omega) (by omega)
  have hl1 := carryRound_length a
  obtain ⟨o', ho', hv', hb0', hb', hob'⟩ := carryRound_val (carryRound a) (by rw [hl1, hl]) (fun i hi => by
    have hh : i = 0 ∨ i = 1 ∨ i = 2 ∨ i = 3 ∨ i = 4 := by omega
    rcases hh with rfl | rfl | rfl | rfl | rfl <;> omega)
  rw [e]
  refine ⟨⟨o + o', by omega, by rw [hv', hv, Int.add_mul]; omega⟩, by rw [carryRound_length, hl1, hl], ?_, hb'⟩
  have : o' ≤ 1 := by omega
  omega
theorem toutTo_raw (a0 a1 a2 a3 a4 b0 b1 b2 b3 b4 : Int) : toutTo [a0, a1, a2, a3, a4] [b0, b1, b2, b3, b4] 5 = [u64 (u64 (u64 (u64 (u64 (0 + u64 (a0 * b0)) + u64 (u64 (a1 * b4) * 5)) + u64 (u64 (a2 * b3) * 5)) + u64 (u64 (a3 * b2) * 5)) + u64 (u64 (a4 * b1) * 5)),
    u64 (u64 (u64 (u64 (u64 (0 + u64 (a0 * b1)) + u64 (a1 * b0)) + u64 (u64 (a2 * b4) * 5)) + u64 (u64 (a3 * b3) * 5)) + u64 (u64 (a4 * b2) * 5)),
    u64 (u64 (u64 (u64 (u64 (0 + u64 (a0 * b2)) + u64 (a1 * b1)) + u64 (a2 * b0)) + u64 (u64 (a3 * b4) * 5)) + u64 (u64 (a4 * b3) * 5)),
    u64 (u64 (u64 (u64 (u64 (0 + u64 (a0 * b3)) + u64 (a1 * b2)) + u64 (a2 * b1)) + u64 (a3 * b0)) + u64 (u64 (a4 * b4) * 5)),
    u64 (u64 (u64 (u64 (u64 (0 + u64 (a0 * b4)) + u64 (a1 * b3)) + u64 (a2 * b2)) + u64 (a3 * b1)) + u64 (a4 * b0))] := by kernel_rfl
/-- Ten products' sum, each step of 64 bits: no step is too much. -/
theorem five_u64 (x0 x1 x2 x3 x4 : Int) (h0 : 0 ≤ x0 ∧ x0 < 288230376151711744) (h1 : 0 ≤ x1 ∧ x1 < 288230376151711744) (h2 : 0 ≤ x2 ∧ x2 < 288230376151711744) (h3 : 0 ≤ x3 ∧ x3 < 288230376151711744) (h4 : 0 ≤ x4 ∧ x4 < 288230376151711744) :
    u64 (u64 (u64 (u64 (u64 (0 + x0) + x1) + x2) + x3) + x4) = x0 + x1 + x2 + x3 + x4 := by
  rw [u64_in (0 + x0) (by omega), u64_in (0 + x0 + x1) (by omega), u64_in (0 + x0 + x1 + x2) (by omega), u64_in (0 + x0 + x1 + x2 + x3) (by omega), u64_in _ (by omega)]
  omega
theorem prod_in (a b : Int) (ha : 0 ≤ a ∧ a < 268435456) (hb : 0 ≤ b ∧ b < 134217728) : 0 ≤ a * b ∧ a * b < 36028797018963968 := by
  refine ⟨Int.mul_nonneg ha.1 hb.1, ?_⟩
  have h1 : a * b ≤ 268435455 * b := Int.mul_le_mul_of_nonneg_right (by omega) hb.1
  omega
theorem prod1 (a b : Int) (ha : 0 ≤ a ∧ a < 268435456) (hb : 0 ≤ b ∧ b < 134217728) : u64 (a * b) = a * b := by
  have := prod_in a b ha hb
  exact u64_in _ (by omega)
theorem prod5 (a b : Int) (ha : 0 ≤ a ∧ a < 268435456) (hb : 0 ≤ b ∧ b < 134217728) : u64 (u64 (a * b) * 5) = a * b * 5 := by
  have := prod_in a b ha hb
  rw [prod1 a b ha hb]
  exact u64_in _ (by omega)
theorem toutTo_eq (a0 a1 a2 a3 a4 b0 b1 b2 b3 b4 : Int) (ha0 : 0 ≤ a0 ∧ a0 < 268435456) (ha1 : 0 ≤ a1 ∧ a1 < 268435456) (ha2 : 0 ≤ a2 ∧ a2 < 268435456) (ha3 : 0 ≤ a3 ∧ a3 < 268435456) (ha4 : 0 ≤ a4 ∧ a4 < 268435456) (hb0 : 0 ≤ b0 ∧ b0 < 134217728) (hb1 : 0 ≤ b1 ∧ b1 < 134217728) (hb2 : 0 ≤ b2 ∧ b2 < 134217728) (hb3 : 0 ≤ b3 ∧ b3 < 134217728) (hb4 : 0 ≤ b4 ∧ b4 < 134217728) : toutTo [a0, a1, a2, a3, a4] [b0, b1, b2, b3, b4] 5 = [a0 * b0 + a1 * b4 * 5 + a2 * b3 * 5 + a3 * b2 * 5 + a4 * b1 * 5, a0 * b1 + a1 * b0 + a2 * b4 * 5 + a3 * b3 * 5 + a4 * b2 * 5, a0 * b2 + a1 * b1 + a2 * b0 + a3 * b4 * 5 + a4 * b3 * 5, a0 * b3 + a1 * b2 + a2 * b1 + a3 * b0 + a4 * b4 * 5, a0 * b4 + a1 * b3 + a2 * b2 + a3 * b1 + a4 * b0] := by
  rw [toutTo_raw]
  have p00 := prod_in a0 b0 ha0 hb0
  have p01 := prod_in a0 b1 ha0 hb1
  have p02 := prod_in a0 b2 ha0 hb2
  have p03 := prod_in a0 b3 ha0 hb3
  have p04 := prod_in a0 b4 ha0 hb4
  have p10 := prod_in a1 b0 ha1 hb0
  have p11 := prod_in a1 b1 ha1 hb1
  have p12 := prod_in a1 b2 ha1 hb2
  have p13 := prod_in a1 b3 ha1 hb3
  have p14 := prod_in a1 b4 ha1 hb4
  have p20 := prod_in a2 b0 ha2 hb0
  have p21 := prod_in a2 b1 ha2 hb1
  have p22 := prod_in a2 b2 ha2 hb2
  have p23 := prod_in a2 b3 ha2 hb3
  have p24 := prod_in a2 b4 ha2 hb4
  have p30 := prod_in a3 b0 ha3 hb0
  have p31 := prod_in a3 b1 ha3 hb1
  have p32 := prod_in a3 b2 ha3 hb2
  have p33 := prod_in a3 b3 ha3 hb3
  have p34 := prod_in a3 b4 ha3 hb4
  have p40 := prod_in a4 b0 ha4 hb0
  have p41 := prod_in a4 b1 ha4 hb1
  have p42 := prod_in a4 b2 ha4 hb2
  have p43 := prod_in a4 b3 ha4 hb3
  have p44 := prod_in a4 b4 ha4 hb4
  rw [prod1 a0 b0 ha0 hb0, prod1 a0 b1 ha0 hb1, prod1 a0 b2 ha0 hb2, prod1 a0 b3 ha0 hb3, prod1 a0 b4 ha0 hb4, prod1 a1 b0 ha1 hb0, prod1 a1 b1 ha1 hb1, prod1 a1 b2 ha1 hb2, prod1 a1 b3 ha1 hb3, prod5 a1 b4 ha1 hb4, prod1 a2 b0 ha2 hb0, prod1 a2 b1 ha2 hb1, prod1 a2 b2 ha2 hb2, prod5 a2 b3 ha2 hb3, prod5 a2 b4 ha2 hb4, prod1 a3 b0 ha3 hb0, prod1 a3 b1 ha3 hb1, prod5 a3 b2 ha3 hb2, prod5 a3 b3 ha3 hb3, prod5 a3 b4 ha3 hb4, prod1 a4 b0 ha4 hb0, prod5 a4 b1 ha4 hb1, prod5 a4 b2 ha4 hb2, prod5 a4 b3 ha4 hb3, prod5 a4 b4 ha4 hb4]
  generalize a0 * b0 = t00 at *
  generalize a0 * b1 = t01 at *
  generalize a0 * b2 = t02 at *
  generalize a0 * b3 = t03 at *
  generalize a0 * b4 = t04 at *
  generalize a1 * b0 = t10 at *
  generalize a1 * b1 = t11 at *
  generalize a1 * b2 = t12 at *
  generalize a1 * b3 = t13 at *
  generalize a1 * b4 = t14 at *
  generalize a2 * b0 = t20 at *
  generalize a2 * b1 = t21 at *
  generalize a2 * b2 = t22 at *
  generalize a2 * b3 = t23 at *
  generalize a2 * b4 = t24 at *
  generalize a3 * b0 = t30 at *
  generalize a3 * b1 = t31 at *
  generalize a3 * b2 = t32 at *
  generalize a3 * b3 = t33 at *
  generalize a3 * b4 = t34 at *
  generalize a4 * b0 = t40 at *
  generalize a4 * b1 = t41 at *
  generalize a4 * b2 = t42 at *
  generalize a4 * b3 = t43 at *
  generalize a4 * b4 = t44 at *
  rw [five_u64 _ _ _ _ _ (by omega) (by omega) (by omega) (by omega) (by omega), five_u64 _ _ _ _ _ (by omega) (by omega) (by omega) (by omega) (by omega), five_u64 _ _ _ _ _ (by omega) (by omega) (by omega) (by omega) (by omega), five_u64 _ _ _ _ _ (by omega) (by omega) (by omega) (by omega) (by omega), five_u64 _ _ _ _ _ (by omega) (by omega) (by omega) (by omega) (by omega)]
theorem times_num (a0 a1 a2 a3 a4 b0 b1 b2 b3 b4 : Int) : (a0 + a1 * 67108864 + a2 * 4503599627370496 + a3 * 302231454903657293676544 + a4 * 20282409603651670423947251286016) * (b0 + b1 * 67108864 + b2 * 4503599627370496 + b3 * 302231454903657293676544 + b4 * 20282409603651670423947251286016) = ((a0 * b0 + a1 * b4 * 5 + a2 * b3 * 5 + a3 * b2 * 5 + a4 * b1 * 5) + (a0 * b1 + a1 * b0 + a2 * b4 * 5 + a3 * b3 * 5 + a4 * b2 * 5) * 67108864 + (a0 * b2 + a1 * b1 + a2 * b0 + a3 * b4 * 5 + a4 * b3 * 5) * 4503599627370496 + (a0 * b3 + a1 * b2 + a2 * b1 + a3 * b0 + a4 * b4 * 5) * 302231454903657293676544 + (a0 * b4 + a1 * b3 + a2 * b2 + a3 * b1 + a4 * b0) * 20282409603651670423947251286016) + (a1 * b4 + a2 * b3 + a2 * b4 * 67108864 + a3 * b2 + a3 * b3 * 67108864 + a3 * b4 * 4503599627370496 + a4 * b1 + a4 * b2 * 67108864 + a4 * b3 * 4503599627370496 + a4 * b4 * 302231454903657293676544) * 1361129467683753853853498429727072845819 := by
  grind
theorem times_val (a b : List Int) (hla : a.length = 5) (hlb : b.length = 5) (ha : ∀ i, i < 5 → 0 ≤ rd a i ∧ rd a i < 268435456) (hb : ∀ i, i < 5 → 0 ≤ rd b i ∧ rd b i < 134217728) :
    (∃ o : Int, val5 (times a b) = val5 a * val5 b - o * pP) ∧ Near (times a b) := by
  have ha0 := ha 0 (by omega)
  have hb0 := hb 0 (by omega)
  have ha1 := ha 1 (by omega)
  have hb1 := hb 1 (by omega)
  have ha2 := ha 2 (by omega)
  have hb2 := hb 2 (by omega)
  have ha3 := ha 3 (by omega)
  have hb3 := hb 3 (by omega)
  have ha4 := ha 4 (by omega)
  have hb4 := hb 4 (by omega)
  have ea := list5 a hla
  have eb := list5 b hlb
  generalize ra0 : rd a 0 = a0 at *
  generalize rb0 : rd b 0 = b0 at *
  generalize ra1 : rd a 1 = a1 at *
  generalize rb1 : rd b 1 = b1 at *
  generalize ra2 : rd a 2 = a2 at *
  generalize rb2 : rd b 2 = b2 at *
  generalize ra3 : rd a 3 = a3 at *
  generalize rb3 : rd b 3 = b3 at *
  generalize ra4 : rd a 4 = a4 at *
  generalize rb4 : rd b 4 = b4 at *
  have ho := toutTo_eq a0 a1 a2 a3 a4 b0 b1 b2 b3 b4 ha0 ha1 ha2 ha3 ha4 hb0 hb1 hb2 hb3 hb4
  rw [← ea, ← eb] at ho
  have hn := times_num a0 a1 a2 a3 a4 b0 b1 b2 b3 b4
  have p00 := prod_in a0 b0 ha0 hb0
  have p01 := prod_in a0 b1 ha0 hb1
  have p02 := prod_in a0 b2 ha0 hb2
  have p03 := prod_in a0 b3 ha0 hb3
  have p04 := prod_in a0 b4 ha0 hb4
  have p10 := prod_in a1 b0 ha1 hb0
  have p11 := prod_in a1 b1 ha1 hb1
  have p12 := prod_in a1 b2 ha1 hb2
  have p13 := prod_in a1 b3 ha1 hb3
  have p14 := prod_in a1 b4 ha1 hb4
  have p20 := prod_in a2 b0 ha2 hb0
  have p21 := prod_in a2 b1 ha2 hb1
  have p22 := prod_in a2 b2 ha2 hb2
  have p23 := prod_in a2 b3 ha2 hb3
  have p24 := prod_in a2 b4 ha2 hb4
  have p30 := prod_in a3 b0 ha3 hb0
  have p31 := prod_in a3 b1 ha3 hb1
  have p32 := prod_in a3 b2 ha3 hb2
  have p33 := prod_in a3 b3 ha3 hb3
  have p34 := prod_in a3 b4 ha3 hb4
  have p40 := prod_in a4 b0 ha4 hb0
  have p41 := prod_in a4 b1 ha4 hb1
  have p42 := prod_in a4 b2 ha4 hb2
  have p43 := prod_in a4 b3 ha4 hb3
  have p44 := prod_in a4 b4 ha4 hb4
  have hva : val5 a = a0 + a1 * 67108864 + a2 * 4503599627370496 + a3 * 302231454903657293676544 + a4 * 20282409603651670423947251286016 := by unfold val5; rw [ra0, ra1, ra2, ra3, ra4]
  have hvb : val5 b = b0 + b1 * 67108864 + b2 * 4503599627370496 + b3 * 302231454903657293676544 + b4 * 20282409603651670423947251286016 := by unfold val5; rw [rb0, rb1, rb2, rb3, rb4]
  rw [← hva, ← hvb] at hn
  clear hva hvb ea eb ha hb
  generalize a0 * b0 = t00 at *
  generalize a0 * b1 = t01 at *
  generalize a0 * b2 = t02 at *
  generalize a0 * b3 = t03 at *
  generalize a0 * b4 = t04 at *
  generalize a1 * b0 = t10 at *
  generalize a1 * b1 = t11 at *
  generalize a1 * b2 = t12 at *
  generalize a1 * b3 = t13 at *
  generalize a1 * b4 = t14 at *
  generalize a2 * b0 = t20 at *
  generalize a2 * b1 = t21 at *
  generalize a2 * b2 = t22 at *
  generalize a2 * b3 = t23 at *
  generalize a2 * b4 = t24 at *
  generalize a3 * b0 = t30 at *
  generalize a3 * b1 = t31 at *
  generalize a3 * b2 = t32 at *
  generalize a3 * b3 = t33 at *
  generalize a3 * b4 = t34 at *
  generalize a4 * b0 = t40 at *
  generalize a4 * b1 = t41 at *
  generalize a4 * b2 = t42 at *
  generalize a4 * b3 = t43 at *
  generalize a4 * b4 = t44 at *
  obtain ⟨x0, hx0⟩ : ∃ x, x = t00 + t14 * 5 + t23 * 5 + t32 * 5 + t41 * 5 := ⟨_, rfl⟩
  obtain ⟨x1, hx1⟩ : ∃ x, x = t01 + t10 + t24 * 5 + t33 * 5 + t42 * 5 := ⟨_, rfl⟩
  obtain ⟨x2, hx2⟩ : ∃ x, x = t02 + t11 + t20 + t34 * 5 + t43 * 5 := ⟨_, rfl⟩
  obtain ⟨x3, hx3⟩ : ∃ x, x = t03 + t12 + t21 + t30 + t44 * 5 := ⟨_, rfl⟩
  obtain ⟨x4, hx4⟩ : ∃ x, x = t04 + t13 + t22 + t31 + t40 := ⟨_, rfl⟩
  rw [← hx0, ← hx1, ← hx2, ← hx3, ← hx4] at ho hn
  have hbx : ∀ i, i < 5 → 0 ≤ rd (toutTo a b 5) i ∧ rd (toutTo a b 5) i < 4611686018427387904 := fun i hi => by
    have hh : i = 0 ∨ i = 1 ∨ i = 2 ∨ i = 3 ∨ i = 4 := by omega
    rw [ho]
    rcases hh with rfl | rfl | rfl | rfl | rfl
    · show 0 ≤ x0 ∧ x0 < 4611686018427387904; omega
    · show 0 ≤ x1 ∧ x1 < 4611686018427387904; omega
    · show 0 ≤ x2 ∧ x2 < 4611686018427387904; omega
    · show 0 ≤ x3 ∧ x3 < 4611686018427387904; omega
    · show 0 ≤ x4 ∧ x4 < 4611686018427387904; omega
  obtain ⟨⟨o, ho0, hov⟩, hnear⟩ := carry2_val (toutTo a b 5) (toutTo_length a b 5) hbx
  have hvo : val5 (toutTo a b 5) = x0 + x1 * 67108864 + x2 * 4503599627370496 + x3 * 302231454903657293676544 + x4 * 20282409603651670423947251286016 := by rw [ho]; rfl
  refine ⟨⟨o + (t14 + t23 + t24 * 67108864 + t32 + t33 * 67108864 + t34 * 4503599627370496 + t41 + t42 * 67108864 + t43 * 4503599627370496 + t44 * 302231454903657293676544), ?_⟩, hnear⟩
  have e : times a b = carryN (toutTo a b 5) 2 := rfl
  rw [e, hov, hn, Int.add_mul, hvo]
  unfold pP
  omega
end Go.Proofs.YtlikinglgegclaaDoor
/- The tag's numbers: seventeen bytes as five parts. -/
namespace Go.Proofs.YtlikinglgegclaaDoor
open Go.RowKit Go.Cour
/-- Bytes as a number, the least first. -/
def valB (b : List Int) : Nat → Int
  | 0 => 0
  | n + 1 => valB b n + rd b n * 2 ^ (8 * n)
/-- Bit i of bytes. -/
def bitB (b : List Int) (i : Nat) : Int := rd b (i / 8) / 2 ^ (i % 8) % 2
def sumB (b : List Int) : Nat → Int
  | 0 => 0
  | n + 1 => sumB b n + bitB b n * 2 ^ n
theorem bitB_in (b : List Int) (i : Nat) : 0 ≤ bitB b i ∧ bitB b i < 2 := ⟨Int.emod_nonneg _ (by decide), Int.emod_lt_of_pos _ (by decide)⟩
theorem sumB_byte (b : List Int) (h : ∀ i, 0 ≤ rd b i ∧ rd b i < 256) (j : Nat) : sumB b (8 * j + 8) = sumB b (8 * j) + rd b j * 2 ^ (8 * j) := by
  have e : ∀ t, t < 8 → bitB b (8 * j + t) = rd b j / 2 ^ t % 2 := fun t ht => by
    unfold bitB
    rw [show (8 * j + t) / 8 = j by omega, show (8 * j + t) % 8 = t by omega]
  have hs : sumB b (8 * j + 8) = sumB b (8 * j) + bitB b (8 * j + 0) * 2 ^ (8 * j + 0) + bitB b (8 * j + 1) * 2 ^ (8 * j + 1) + bitB b (8 * j + 2) * 2 ^ (8 * j + 2) + bitB b (8 * j + 3) * 2 ^ (8 * j + 3) + bitB b (8 * j + 4) * 2 ^ (8 * j + 4) + bitB b (8 * j + 5) * 2 ^ (8 * j + 5) + bitB b (8 * j + 6) * 2 ^ (8 * j + 6) + bitB b (8 * j + 7) * 2 ^ (8 * j + 7) := rfl
  rw [hs, e 0 (by omega), e 1 (by omega), e 2 (by omega), e 3 (by omega), e 4 (by omega), e 5 (by omega), e 6 (by omega), e 7 (by omega)]
  simp only [Int.pow_add]
  have hx := h j
  generalize rd b j = x at *
  generalize (2 : Int) ^ (8 * j) = p at *
  generalize sumB b (8 * j) = s at *
  have hb : x = x / 2 ^ 0 % 2 + 2 * (x / 2 ^ 1 % 2) + 4 * (x / 2 ^ 2 % 2) + 8 * (x / 2 ^ 3 % 2) + 16 * (x / 2 ^ 4 % 2) + 32 * (x / 2 ^ 5 % 2) + 64 * (x / 2 ^ 6 % 2) + 128 * (x / 2 ^ 7 % 2) := by
    have e1 : (2 : Int) ^ 0 = 1 := rfl
    have e2 : (2 : Int) ^ 1 = 2 := rfl
    have e3 : (2 : Int) ^ 2 = 4 := rfl
    have e4 : (2 : Int) ^ 3 = 8 := rfl
    have e5 : (2 : Int) ^ 4 = 16 := rfl
    have e6 : (2 : Int) ^ 5 = 32 := rfl
    have e7 : (2 : Int) ^ 6 = 64 := rfl
    have e8 : (2 : Int) ^ 7 = 128 := rfl
    rw [e1, e2, e3, e4, e5, e6, e7, e8]
    omega
  generalize x / 2 ^ 0 % 2 = c0 at *
  generalize x / 2 ^ 1 % 2 = c1 at *
  generalize x / 2 ^ 2 % 2 = c2 at *
  generalize x / 2 ^ 3 % 2 = c3 at *
  generalize x / 2 ^ 4 % 2 = c4 at *
  generalize x / 2 ^ 5 % 2 = c5 at *
  generalize x / 2 ^ 6 % 2 = c6 at *
  generalize x / 2 ^ 7 % 2 = c7 at *
  rw [hb]
  grind
theorem sumB_valB (b : List Int) (h : ∀ i, 0 ≤ rd b i ∧ rd b i < 256) : ∀ j, sumB b (8 * j) = valB b j
  | 0 => rfl
  | j + 1 => by
    rw [show 8 * (j + 1) = 8 * j + 8 by omega, sumB_byte b h j, sumB_valB b h j]
    rfl
/-- Part k of the first n bits. -/
def dig (b : List Int) : Nat → Nat → Int
  | 0, _ => 0
  | n + 1, k => dig b n k + (if min (n / 26) 4 = k then bitB b n * 2 ^ (n - 26 * k) else 0)
theorem dig_in (b : List Int) (k : Nat) : ∀ n, 0 ≤ dig b n k ∧ dig b n k < 2 ^ (n - 26 * k)
  | 0 => by
    have : (0 : Int) < 2 ^ (0 - 26 * k) := Int.pow_pos (by decide)
    exact ⟨Int.le_refl _, this⟩
  | n + 1 => by
    have ih := dig_in b k n
    have hb := bitB_in b n
    unfold dig
    split
    · rename_i hk
      have hn : 26 * k ≤ n := by omega
      have e : n + 1 - 26 * k = (n - 26 * k) + 1 := by omega
      rw [e, Int.pow_succ]
      have hp : (0 : Int) < 2 ^ (n - 26 * k) := Int.pow_pos (by decide)
      generalize (2 : Int) ^ (n - 26 * k) = p at *
      have hc : bitB b n = 0 ∨ bitB b n = 1 := by omega
      rcases hc with hc | hc <;> rw [hc] <;> omega
    · have hp : (2 : Int) ^ (n - 26 * k) ≤ 2 ^ (n + 1 - 26 * k) := by
        have h1 : (2 : Nat) ^ (n - 26 * k) ≤ 2 ^ (n + 1 - 26 * k) := Nat.pow_le_pow_right (by decide) (by omega)
        exact_mod_cast h1
      omega
theorem dig_sum (b : List Int) : ∀ n, dig b n 0 + dig b n 1 * 2 ^ 26 + dig b n 2 * 2 ^ 52 + dig b n 3 * 2 ^ 78 + dig b n 4 * 2 ^ 104 = sumB b n
  | 0 => by simp [dig, sumB]
  | n + 1 => by
    have ih := dig_sum b n
    unfold sumB
    rw [← ih]
    have hk : min (n / 26) 4 = 0 ∨ min (n / 26) 4 = 1 ∨ min (n / 26) 4 = 2 ∨ min (n / 26) 4 = 3 ∨ min (n / 26) 4 = 4 := by omega
    have hp : ∀ k, 26 * k ≤ n → (2 : Int) ^ n = 2 ^ (n - 26 * k) * 2 ^ (26 * k) := fun k h => by rw [← Int.pow_add]; congr 1; omega
    rcases hk with h | h | h | h | h
    · have := hp 0 (by omega)
      simp only [dig, h, if_true]
      rw [this]
      simp
      omega
    · have := hp 1 (by omega)
      simp [dig, h]
      rw [this]
      grind
    · have := hp 2 (by omega)
      simp [dig, h]
      rw [this]
      grind
    · have := hp 3 (by omega)
      simp [dig, h]
      rw [this]
      grind
    · have := hp 4 (by omega)
      simp [dig, h]
      rw [this]
      grind
end Go.Proofs.YtlikinglgegclaaDoor
/- The tag's numbers: the parts of seventeen bytes; what is taken in. -/
namespace Go.Proofs.YtlikinglgegclaaDoor
open Go.RowKit Go.Cour
/-- No more bits than a part has. -/
theorem dig_cap (b : List Int) (k : Nat) (hk4 : k < 4) : ∀ n, dig b n k < 2 ^ (min n (26 * (k + 1)) - 26 * k)
  | 0 => by
    have : (0 : Int) < 2 ^ (min 0 (26 * (k + 1)) - 26 * k) := Int.pow_pos (by decide)
    exact this
  | n + 1 => by
    by_cases hk : min (n / 26) 4 = k
    · have h := (dig_in b k (n + 1)).2
      rw [show min (n + 1) (26 * (k + 1)) = n + 1 by omega]
      exact h
    · have ih := dig_cap b k hk4 n
      have e : dig b (n + 1) k = dig b n k := by simp [dig, hk]
      rw [e]
      have hp : (2 : Int) ^ (min n (26 * (k + 1)) - 26 * k) ≤ 2 ^ (min (n + 1) (26 * (k + 1)) - 26 * k) := by
        have h1 : (2 : Nat) ^ (min n (26 * (k + 1)) - 26 * k) ≤ 2 ^ (min (n + 1) (26 * (k + 1)) - 26 * k) := Nat.pow_le_pow_right (by decide) (by omega)
        exact_mod_cast h1
      omega
theorem and1_u8 (x : Int) (h0 : 0 ≤ x) (h1 : x < 256) : bits .and .u8 x 1 = x % 2 :=
  bits_mask .u8 8 (by decide) (fun n h0 h1 => by rw [IntKind.wrap_u8]; omega) 1 (by decide) x h0 (by simpa using h1)
theorem pbit_num (b : List Int) (h : ∀ i, 0 ≤ rd b i ∧ rd b i < 256) (i : Nat) (hi : i < 136) : pbit b i = bitB b i * 2 ^ (i - 26 * min (i / 26) 4) := by
  have hx := h (i / 8)
  have hd : 0 ≤ rd b (i / 8) / 2 ^ (i % 8) ∧ rd b (i / 8) / 2 ^ (i % 8) < 256 := by
    have hp : (0 : Int) < 2 ^ (i % 8) := Int.pow_pos (by decide)
    refine ⟨Int.ediv_nonneg hx.1 (by omega), ?_⟩
    have := Int.ediv_le_self (2 ^ (i % 8)) hx.1
    omega
  have hb := bitB_in b i
  unfold pbit
  rw [and1_u8 _ hd.1 hd.2]
  change u64 (u64 (bitB b i) * 2 ^ (i - 26 * min (i / 26) 4)) = _
  have hs : i - 26 * min (i / 26) 4 ≤ 31 := by omega
  generalize i - 26 * min (i / 26) 4 = s at *
  have hp1 : (2 : Int) ^ s ≤ 2147483648 := by
    have h1 : (2 : Nat) ^ s ≤ 2147483648 := Nat.le_trans (Nat.pow_le_pow_right (by decide) hs) (Nat.le_refl (2 ^ 31))
    have h2 : (2 : Int) ^ s = ((2 ^ s : Nat) : Int) := by simp
    omega
  have hp0 : (0 : Int) < 2 ^ s := Int.pow_pos (by decide)
  rw [u64_in (bitB b i) (by omega)]
  have hc : bitB b i = 0 ∨ bitB b i = 1 := by omega
  rcases hc with hc | hc <;> rw [hc]
  · rw [Int.zero_mul]; rfl
  · rw [Int.one_mul, u64_in _ (by omega)]
theorem or_add (L t : Int) (s : Nat) (hL : 0 ≤ L ∧ L < 2 ^ s) (ht : t = 0 ∨ t = 1) (hs : s ≤ 40) : bits .or .u64 L (t * 2 ^ s) = L + t * 2 ^ s := by
  obtain ⟨a, rfl⟩ : ∃ a : Nat, L = (a : Int) := ⟨L.toNat, by omega⟩
  obtain ⟨u, rfl⟩ : ∃ u : Nat, t = (u : Int) := ⟨t.toNat, by omega⟩
  have ha : a < 2 ^ s := by exact_mod_cast hL.2
  have hp : (2 : Nat) ^ s ≤ 2 ^ 40 := Nat.pow_le_pow_right (by decide) hs
  have e : ((u : Int) * 2 ^ s) = ((2 ^ s * u : Nat) : Int) := by rw [Nat.mul_comm]; simp
  have hu : u = 0 ∨ u = 1 := by omega
  have hb : 2 ^ s * u < 18446744073709551616 := by
    rcases hu with rfl | rfl
    · simp
    · rw [Nat.mul_one]; omega
  rw [e, bits_or_u64_nat a _ (by omega) hb, Nat.or_comm, ← Nat.two_pow_add_eq_or_of_lt ha]
  omega
theorem partsTo_rd (b : List Int) (h : ∀ i, 0 ≤ rd b i ∧ rd b i < 256) (k : Nat) (hk5 : k < 5) : ∀ n, n ≤ 136 → rd (partsTo b n) k = dig b n k
  | 0, _ => by
    have hk : k = 0 ∨ k = 1 ∨ k = 2 ∨ k = 3 ∨ k = 4 := by omega
    rcases hk with rfl | rfl | rfl | rfl | rfl <;> rfl
  | n + 1, hn => by
    have ih := partsTo_rd b h k hk5 n (by omega)
    rw [partsTo_succ, rd_set', partsTo_length]
    unfold dig
    by_cases hk : min (n / 26) 4 = k
    · rw [if_pos ⟨hk, hk5⟩, if_pos hk, pbit_num b h n (by omega), hk, ih]
      have hd := dig_in b k n
      have hb := bitB_in b n
      exact or_add _ _ _ hd (by omega) (by omega)
    · rw [if_neg (fun hh => hk hh.1), if_neg hk, ih]
      omega
theorem parts_val (b : List Int) (h : ∀ i, 0 ≤ rd b i ∧ rd b i < 256) : val5 (parts b) = valB b 17 := by
  have hs := dig_sum b 136
  rw [sumB_valB b h 17] at hs
  unfold val5 parts
  rw [partsTo_rd b h 0 (by omega) 136 (by omega), partsTo_rd b h 1 (by omega) 136 (by omega), partsTo_rd b h 2 (by omega) 136 (by omega), partsTo_rd b h 3 (by omega) 136 (by omega), partsTo_rd b h 4 (by omega) 136 (by omega)]
  have e1 : (2 : Int) ^ 26 = 67108864 := by decide
  have e2 : (2 : Int) ^ 52 = 4503599627370496 := by decide
  have e3 : (2 : Int) ^ 78 = 302231454903657293676544 := by decide
  have e4 : (2 : Int) ^ 104 = 20282409603651670423947251286016 := by decide
  rw [e1, e2, e3, e4] at hs
  exact hs
theorem parts_in (b : List Int) (h : ∀ i, 0 ≤ rd b i ∧ rd b i < 256) (k : Nat) (hk : k < 4) : 0 ≤ rd (parts b) k ∧ rd (parts b) k < 67108864 := by
  unfold parts
  rw [partsTo_rd b h k (by omega) 136 (by omega)]
  have h1 := (dig_in b k 136).1
  have h2 := dig_cap b k hk 136
  rw [show min 136 (26 * (k + 1)) - 26 * k = 26 by omega] at h2
  have e1 : (2 : Int) ^ 26 = 67108864 := by decide
  rw [e1] at h2
  exact ⟨h1, h2⟩
theorem parts_in4 (b : List Int) (h : ∀ i, 0 ≤ rd b i ∧ rd b i < 256) : 0 ≤ rd (parts b) 4 ∧ rd (parts b) 4 * 20282409603651670423947251286016 ≤ valB b 17 := by
  have h0 := parts_in b h 0 (by omega)
  have h1 := parts_in b h 1 (by omega)
  have h2 := parts_in b h 2 (by omega)
  have h3 := parts_in b h 3 (by omega)
  have h4 : 0 ≤ rd (parts b) 4 := by
    unfold parts
    rw [partsTo_rd b h 4 (by omega) 136 (by omega)]
    exact (dig_in b 4 136).1
  have hv := parts_val b h
  unfold val5 at hv
  omega
theorem valB_in (b : List Int) (h : ∀ i, 0 ≤ rd b i ∧ rd b i < 256) : ∀ n, 0 ≤ valB b n ∧ valB b n < 2 ^ (8 * n)
  | 0 => ⟨Int.le_refl _, by show (0 : Int) < 2 ^ 0; decide⟩
  | n + 1 => by
    have ih := valB_in b h n
    have hx := h n
    have hp : (0 : Int) < 2 ^ (8 * n) := Int.pow_pos (by decide)
    have e : (2 : Int) ^ (8 * (n + 1)) = 2 ^ (8 * n) * 256 := by rw [show 8 * (n + 1) = 8 * n + 8 by omega, Int.pow_add]; rfl
    unfold valB
    rw [e]
    generalize (2 : Int) ^ (8 * n) = p at *
    have h1 : 0 ≤ rd b n * p := Int.mul_nonneg hx.1 (by omega)
    have h2 : rd b n * p ≤ 255 * p := Int.mul_le_mul_of_nonneg_right (by omega) (by omega)
    omega
/-- Bytes are told by their number. -/
theorem valB_inj (a b : List Int) (ha : ∀ i, 0 ≤ rd a i ∧ rd a i < 256) (hb : ∀ i, 0 ≤ rd b i ∧ rd b i < 256) : ∀ n, valB a n = valB b n → ∀ i, i < n → rd a i = rd b i
  | 0, _, i, hi => absurd hi (Nat.not_lt_zero _)
  | n + 1, h, i, hi => by
    have h1 := valB_in a ha n
    have h2 := valB_in b hb n
    have hp : (0 : Int) < 2 ^ (8 * n) := Int.pow_pos (by decide)
    have hx := ha n
    have hy := hb n
    unfold valB at h
    generalize hpp : (2 : Int) ^ (8 * n) = p at *
    have hd : rd a n = rd b n := by
      rcases Int.lt_trichotomy (rd a n) (rd b n) with hlt | he | hlt
      · have : (rd a n + 1) * p ≤ rd b n * p := Int.mul_le_mul_of_nonneg_right (by omega) (by omega)
        rw [Int.add_mul] at this
        omega
      · exact he
      · have : (rd b n + 1) * p ≤ rd a n * p := Int.mul_le_mul_of_nonneg_right (by omega) (by omega)
        rw [Int.add_mul] at this
        omega
    by_cases hin : i = n
    · subst hin; exact hd
    · rw [hd] at h
      exact valB_inj a b ha hb n (by omega) i (by omega)
end Go.Proofs.YtlikinglgegclaaDoor
/- The tag's numbers: what is summed; the lowest 128 bits. -/
namespace Go.Proofs.YtlikinglgegclaaDoor
open Go.RowKit Go.Cour
theorem addTo_raw (s0 s1 s2 s3 s4 p0 p1 p2 p3 p4 : Int) : addTo [s0, s1, s2, s3, s4] [p0, p1, p2, p3, p4] 5 = [u64 (s0 + p0), u64 (s1 + p1), u64 (s2 + p2), u64 (s3 + p3), u64 (s4 + p4)] := by kernel_rfl
/-- Parts added. -/
theorem addTo_val (s p : List Int) (hs : s.length = 5) (hp : p.length = 5) (h : ∀ i, i < 5 → 0 ≤ rd s i ∧ rd s i < 134217728) (k : ∀ i, i < 5 → 0 ≤ rd p i ∧ rd p i < 134217728) :
    val5 (addTo s p 5) = val5 s + val5 p ∧ (∀ i, i < 5 → 0 ≤ rd (addTo s p 5) i ∧ rd (addTo s p 5) i < 268435456) := by
  have h0 := h 0 (by omega)
  have h1 := h 1 (by omega)
  have h2 := h 2 (by omega)
  have h3 := h 3 (by omega)
  have h4 := h 4 (by omega)
  have k0 := k 0 (by omega)
  have k1 := k 1 (by omega)
  have k2 := k 2 (by omega)
  have k3 := k 3 (by omega)
  have k4 := k 4 (by omega)
  have e : addTo s p 5 = [rd s 0 + rd p 0, rd s 1 + rd p 1, rd s 2 + rd p 2, rd s 3 + rd p 3, rd s 4 + rd p 4] := by
    have e1 := addTo_raw (rd s 0) (rd s 1) (rd s 2) (rd s 3) (rd s 4) (rd p 0) (rd p 1) (rd p 2) (rd p 3) (rd p 4)
    rw [← list5 s hs, ← list5 p hp] at e1
    rw [e1, u64_in _ (by omega), u64_in _ (by omega), u64_in _ (by omega), u64_in _ (by omega), u64_in _ (by omega)]
  rw [e]
  refine ⟨?_, fun i hi => ?_⟩
  · show rd s 0 + rd p 0 + (rd s 1 + rd p 1) * 67108864 + (rd s 2 + rd p 2) * 4503599627370496 + (rd s 3 + rd p 3) * 302231454903657293676544 + (rd s 4 + rd p 4) * 20282409603651670423947251286016 = _
    unfold val5
    omega
  · have hh : i = 0 ∨ i = 1 ∨ i = 2 ∨ i = 3 ∨ i = 4 := by omega
    rcases hh with rfl | rfl | rfl | rfl | rfl
    · show 0 ≤ rd s 0 + rd p 0 ∧ rd s 0 + rd p 0 < 268435456; omega
    · show 0 ≤ rd s 1 + rd p 1 ∧ rd s 1 + rd p 1 < 268435456; omega
    · show 0 ≤ rd s 2 + rd p 2 ∧ rd s 2 + rd p 2 < 268435456; omega
    · show 0 ≤ rd s 3 + rd p 3 ∧ rd s 3 + rd p 3 < 268435456; omega
    · show 0 ≤ rd s 4 + rd p 4 ∧ rd s 4 + rd p 4 < 268435456; omega
theorem Near.in {a : List Int} (h : Near a) : ∀ i, i < 5 → 0 ≤ rd a i ∧ rd a i < 134217728 := fun i hi => by
  by_cases h0 : i = 0
  · subst h0; have := h.lo; omega
  · have := h.hi i (by omega) hi; omega
/-- A block: bytes, a one behind. -/
theorem rd_app (xs ys : List Int) (i : Nat) : rd (xs ++ ys) i = if i < xs.length then rd xs i else rd ys (i - xs.length) := by
  unfold rd
  rw [List.getD_eq_getElem?_getD, List.getElem?_append]
  split <;> rw [List.getD_eq_getElem?_getD]
theorem rd_rep0 (n i : Nat) : rd (List.replicate n 0) i = 0 := by
  unfold rd
  rw [List.getD_eq_getElem?_getD, List.getElem?_replicate]
  split <;> rfl
theorem rd_blockOf (ys : List Int) (i : Nat) (hi : i < 17) : rd (blockOf ys) i = if i = min ys.length 16 then 1 else if i < min ys.length 16 then rd ys i else 0 := by
  unfold blockOf
  have hm : min ys.length 16 ≤ 16 := Nat.min_le_right _ _
  have hl : (ys.take (min ys.length 16)).length = min ys.length 16 := by rw [List.length_take]; omega
  rw [rd_set']
  have hlen : (ys.take (min ys.length 16) ++ (List.replicate 17 (0 : Int)).drop (min ys.length 16)).length = 17 := by rw [List.length_append, hl, List.length_drop, List.length_replicate]; omega
  rw [hlen]
  by_cases h : i = min ys.length 16
  · rw [if_pos ⟨h.symm, hi⟩, if_pos h]
  · rw [if_neg (fun hh => h hh.1.symm), if_neg h, rd_app, hl]
    by_cases h2 : i < min ys.length 16
    · rw [if_pos h2, if_pos h2, rd_take _ _ _ h2]
    · rw [if_neg h2, if_neg h2, rd_drop]
      exact rd_rep0 _ _
theorem blockOf_ok (ys : List Int) (h : ∀ i, 0 ≤ rd ys i ∧ rd ys i < 256) (i : Nat) : 0 ≤ rd (blockOf ys) i ∧ rd (blockOf ys) i < 256 := by
  by_cases hi : i < 17
  · rw [rd_blockOf ys i hi]
    have := h i
    split
    · omega
    · split <;> omega
  · unfold rd
    rw [List.getD_eq_getElem?_getD, List.getElem?_eq_none (by rw [blockOf_length]; omega)]
    simp
theorem blockOf_val (ys : List Int) (h : ∀ i, 0 ≤ rd ys i ∧ rd ys i < 256) : valB (blockOf ys) 17 < 680564733841876926926749214863536422912 := by
  have h1 := valB_in (blockOf ys) (blockOf_ok ys h) 16
  have h2 : rd (blockOf ys) 16 ≤ 1 := by
    rw [rd_blockOf ys 16 (by omega)]
    split
    · omega
    · split <;> omega
  have e : (2 : Int) ^ (8 * 16) = 340282366920938463463374607431768211456 := by decide
  rw [e] at h1
  have e2 : valB (blockOf ys) 17 = valB (blockOf ys) 16 + rd (blockOf ys) 16 * 2 ^ (8 * 16) := rfl
  rw [e2, e]
  omega
theorem parts_low (b : List Int) (h : ∀ i, 0 ≤ rd b i ∧ rd b i < 256) (hv : valB b 17 < 680564733841876926926749214863536422912) : ∀ i, i < 5 → 0 ≤ rd (parts b) i ∧ rd (parts b) i < 134217728 := fun i hi => by
  by_cases h4 : i = 4
  · subst h4
    have := parts_in4 b h
    omega
  · have := parts_in b h i (by omega)
    omega
theorem absorb_val (s p ys : List Int) (hs : Near s) (hp : p.length = 5) (hpi : ∀ i, i < 5 → 0 ≤ rd p i ∧ rd p i < 134217728) (h : ∀ i, 0 ≤ rd ys i ∧ rd ys i < 256) :
    (∃ o : Int, val5 (absorb s p ys) = (val5 s + valB (blockOf ys) 17) * val5 p - o * pP) ∧ Near (absorb s p ys) := by
  have hb := blockOf_ok ys h
  obtain ⟨h1, h2⟩ := addTo_val s (parts (blockOf ys)) hs.len (partsTo_length _ _) hs.in (parts_low _ hb (blockOf_val ys h))
  have h3 := times_val (addTo s (parts (blockOf ys)) 5) p (by rw [addTo_length]; exact hs.len) hp h2 hpi
  rw [h1, parts_val _ hb] at h3
  exact h3
/-- What is summed, by numbers. -/
def sumN (R : Int) (bs : List Int) : Nat → Int
  | 0 => 0
  | n + 1 => (sumN R bs n + valB (blockOf (bs.drop (16 * n))) 17) * R % pP
theorem sumTo_val (p bs : List Int) (hp : p.length = 5) (hpi : ∀ i, i < 5 → 0 ≤ rd p i ∧ rd p i < 134217728) (h : ∀ i, 0 ≤ rd bs i ∧ rd bs i < 256) :
    ∀ n, Near (sumTo p bs n) ∧ val5 (sumTo p bs n) % pP = sumN (val5 p) bs n
  | 0 => by
    rw [sumTo_zero]
    exact ⟨⟨by simp, by decide, fun i _ _ => by rw [rd_rep0]; omega⟩, by show val5 (List.replicate 5 0) % pP = 0; decide⟩
  | n + 1 => by
    obtain ⟨ih1, ih2⟩ := sumTo_val p bs hp hpi h n
    rw [sumTo_succ]
    obtain ⟨⟨o, ho⟩, hn⟩ := absorb_val (sumTo p bs n) p (bs.drop (16 * n)) ih1 hp hpi (fun i => by rw [rd_drop]; exact h _)
    refine ⟨hn, ?_⟩
    unfold sumN
    rw [ho, ← ih2]
    generalize val5 (sumTo p bs n) = V at *
    generalize valB (blockOf (bs.drop (16 * n))) 17 = C at *
    generalize val5 p = R at *
    have hV := Int.emod_add_mul_ediv V pP
    have e : (V + C) * R - o * pP = (V % pP + C) * R + pP * (V / pP * R - o) := by
      generalize V % pP = r at *
      generalize V / pP = q at *
      rw [← hV]
      grind
    rw [e, Int.add_mul_emod_self_left]
end Go.Proofs.YtlikinglgegclaaDoor
