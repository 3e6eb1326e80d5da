/- aead.tag. -/
import Derived.Test.YtpmmmbilfblcpaaDoorAeA
import Derived.Test.YtpmmmbilfblcpaaDoorArr
import Derived.Test.YtpmmmbilfblcpaaDoorFactsU
namespace Go.Proofs.YtpmmmbilfblcpaaDoor
open Go.RowKit Go.Cour
theorem gap_lt (n : Nat) : gap n < 16 := by unfold gap; omega
theorem padTo_length (xs b : List Int) : (padTo xs b).length = xs.length + b.length + gap b.length := by simp [padTo]; omega
theorem take_get {xs : List Int} {n j : Nat} {v : Value} (h : (ints .u8 (xs.take n))[j]? = some v) : (ints .u8 xs)[j]? = some v := by
  rw [ints, List.map_take] at h
  rw [List.getElem?_take] at h
  split at h
  · exact h
  · cases h
/-- What a tag is of. -/
def tagText (ad b : List Int) : List Int := padTo (padTo [] ad) b ++ lenTo ad.length 8 ++ lenTo b.length 8
def tagOf (key nonce ad b : List Int) : List Int := polySum ((block key 0 nonce).take 32) (tagText ad b)
theorem zeroT16 : ((Tryd.prog.info? 46).bind (·.zero)).map (·.cells) = some (ints .u8 (List.replicate 16 0)).toArray := by kernel_rfl
theorem zeroT64 : ((Tryd.prog.info? 44).bind (·.zero)).map (·.cells) = some (ints .u8 (List.replicate 64 0)).toArray := by kernel_rfl
theorem infoT16 : (Tryd.prog.info? 46).map (·.size) = some 16 := by kernel_rfl
theorem infoT64 : (Tryd.prog.info? 44).map (·.size) = some 64 := by kernel_rfl
theorem undT64 : Tryd.prog.underlying 44 = some (.array 64 5) := by kernel_rfl
theorem undT16 : Tryd.prog.underlying 46 = some (.array 16 5) := by kernel_rfl
/-- A slice taken for a pointer to an array of no more elements. -/
theorem arr_ptr {P : Program} {ops : Array Oper} {rest : List Oper} {o : Oper} {a : Act} {w : World} {Q : Exit → Act → World → Prop} (hgd : o.guard = none) (ty : TypeId) (x : Operand) (ho : o.op = .sliceToArrayPointer ty x)
    (A : Addr) (len cap n : Nat) (e : TypeId) (hx : a.eval x = .slice (some A) len cap) (hu : P.underlying ty = some (.array n e)) (hl : n ≤ len)
    (h : wpList P ops Q rest (a.put o.dst (.pointer (some A))) w) : wpList P ops Q (o :: rest) a w := by
  have hl2 : ¬ len < n := by omega
  refine wpList_plain hgd fun K hK => ?_
  unfold Oper.wp execOp
  simp [ho, hx, Instr.arrayAt, run_underlying hu, hl2]
  exact hK _ _ h
/-- What stays while a tag's last part is reckoned. -/
structure TagS (w : World) (g8 g9 B1 : Nat) (cs : List Int) (w' : World) : Prop where
  blk : Blk w' g9 44 (ints .u8 cs)
  bel : Below w.heap.size w w'
  size : B1 ≤ w'.heap.size
  out : ∃ old, Blk w' g8 46 old ∧ old.length = 16
theorem TagS.below {w : World} {g8 g9 B1 : Nat} {cs : List Int} {w' w2 : World} (h : TagS w g8 g9 B1 cs w') (hb : Below B1 w' w2) (h8 : g8 < B1) (h9 : g9 < B1) (hw : w.heap.size ≤ B1) : TagS w g8 g9 B1 cs w2 := by
  obtain ⟨old, h1, h2⟩ := h.out
  exact ⟨h.blk.below hb h9, ⟨hb.os.trans h.bel.os, hb.tape.trans h.bel.tape, hb.output.trans h.bel.output, Nat.le_trans h.bel.size hb.size, fun k hk => (hb.block k (by omega)).trans (h.bel.block k hk)⟩,
    Nat.le_trans h.size hb.size, old, h1.below hb h8, h2⟩
set_option maxHeartbeats 400000 in
set_option maxRecDepth 100000 in
theorem tag_calls (key nonce ad b : List Int) (A A' : Option Addr) (c c' n n' : Nat) (w : World) (hk : key.length = 32) (hnl : nonce.length = 12) (rk : bytesOk key) (rn : bytesOk nonce)
    (hn : n = ad.length) (hA : A = none → c = 0) (hr : Rd w A .u8 ad) (hn' : n' = b.length) (hA' : A' = none → c' = 0) (hr' : Rd w A' .u8 b) (hla : ad.length ≤ 100000) (hlb : b.length ≤ 100000) :
    Calls Tryd.prog 36 #[.agg (ints .u8 key).toArray, .agg (ints .u8 nonce).toArray, .slice A n c, .slice A' n' c'] w fun e w' => e = .returned (.agg (ints .u8 (tagOf key nonce ad b)).toArray) ∧ Below w.heap.size w w' := by
  subst hn hn'
  have HK := hid hk
  have HN := hid hnl
  go_enter Tryd.func36, Tryd.ntmps36
  go_wp2_with (first
    | (refine box_blk rfl 23 _ rfl _ rfl (ints .u8 key) rfl ?_; intro g4 w1 hg4 hb4 hB1 hs1)
    | (refine box_blk rfl 24 _ rfl _ rfl (ints .u8 nonce) rfl ?_; intro g5 w2 hg5 hb5 hB2 hs2
       have hb4' := hb4.belowAll hB2)
    | (refine alloc_blk rfl 46 rfl _ rfl (ints .u8 (List.replicate 16 0)) zeroT16 ?_; intro g8 w3 hg8 hb8 hB3 hs3
       have hb4'' := hb4'.belowAll hB3
       have hb5' := hb5.belowAll hB3)
    | (refine load_blk rfl 23 _ rfl g4 rfl 23 _ hb4'' 32 5 arr23 (by simp [ints, hk]) info23 ?_)
    | (refine load_blk rfl 24 _ rfl g5 rfl 24 _ hb5' 12 5 arr24 (by simp [ints, hnl]) info24 ?_)
    | (go_at_call 21; refine (block_calls key nonce 0 w3 hk hnl rk rn (by omega)).mono ?_; rintro e w4 ⟨rfl, hB4⟩)
    | (refine alloc_blk rfl 44 rfl _ rfl (ints .u8 (List.replicate 64 0)) zeroT64 ?_; intro g9 w5 hg9 hb9 hB5 hs5)
    | (refine store_blk rfl 44 _ _ rfl g9 (ints .u8 (block key 0 nonce)) rfl rfl 44 _ hb9 64 infoT64 (by simp [ints, block_length]) (by simp [ints]) (ints_one _ _) ?_
       have hb9' := hb9.setRow (ints .u8 (block key 0 nonce))
       have hbw6 := below_setRow (g := g9) hB5 (by omega) (ints .u8 (block key 0 nonce)).toArray
       generalize hW6 : w5.setRow g9 (ints .u8 (block key 0 nonce)).toArray = w6 at *
       have hB36 : Below w.heap.size w w6 := below_then (below_then (below_then (below_then hB1 hB1.size hB2) (by have := hB1.size; have := hB2.size; omega) hB3) (by have := hB1.size; have := hB2.size; have := hB3.size; omega) hB4) (by have := hB1.size; have := hB2.size; have := hB3.size; have := hB4.size; omega) hbw6)
    | (go_at_call 51; refine (padded_calls w6.heap.size v7 (padTo [] ad) b A' c' _ w7 rfl hA' ((hr'.below hB36).below hB7) ho7 (by have := padTo_length [] ad; have := gap_lt ad.length; simp only [List.length_nil] at *; omega) (by omega) hB7.size).mono ?_; rintro e w8 ⟨v8, rfl, ho8, hB8⟩)
    | (go_at_call 51; refine (padded_calls w6.heap.size (.slice none 0 0) [] ad A c _ w6 rfl hA (hr.below hB36) (Own.nil _ _ _ _) (by simp) (by omega) (Nat.le_refl _)).mono ?_; rintro e w7 ⟨v7, rfl, ho7, hB7⟩)
    | fail)
  obtain ⟨B1, hB1e⟩ : ∃ B1, B1 = w6.heap.size := ⟨_, rfl⟩
  have z1 := hB1.size
  have z2 := hB2.size
  have z3 := hB3.size
  have z4 := hB4.size
  have z5 := hbw6.size
  have zs : w5.heap.size = w6.heap.size := by rw [← hW6]; simp [World.setRow]
  have h8B : g8 < B1 := by omega
  have h9B : g9 < B1 := by omega
  have hwB : w.heap.size ≤ B1 := by omega
  rw [← hB1e] at ho7 hB7 ho8 hB8
  have hT8 : TagS w g8 g9 B1 (block key 0 nonce) w8 := by
    have hB68 := hB7.trans hB8
    have hb8w : Blk w6 g8 46 (ints .u8 (List.replicate 16 0)) := (hb8.belowAll hB4).belowAll hbw6
    exact TagS.below ⟨hb9', hB36, by omega, _, hb8w, by simp [ints]⟩ hB68 h8B h9B hwB
  have H8 := hid h8B
  have H9 := hid h9B
  have HW := hid hwB
  have H89 : Hd (g9 ≠ g8) := ⟨by omega⟩
  have hgl8 : w.heap.size ≤ g8 := by omega
  have HB1e := hid hB1e
  clear z1 z2 z3 z4 z5 zs hW6 hB1e
  have hp1 := padTo_length [] ad
  have hp2 := padTo_length (padTo [] ad) b
  have hg1 := gap_lt ad.length
  have hg2 := gap_lt b.length
  simp only [List.length_nil] at hp1
  have HPL : Hd ((padTo (padTo [] ad) b).length ≤ 1000000) := ⟨by omega⟩
  have HPL2 : Hd ((padTo (padTo [] ad) b ++ lenTo ad.length 8).length ≤ 1000000) := ⟨by rw [List.length_append, lenTo_length]; omega⟩
  have HTL : Hd ((tagText ad b).length ≤ 1000000) := ⟨by rw [tagText, List.length_append, List.length_append, lenTo_length, lenTo_length]; omega⟩
  clear hp1 hp2 hg1 hg2
  refine wp_region_factsU (ix := [[0], [1], [2], [3], [4], [5], [6], [7], [8], []]) (S := TagS w g8 g9 B1 (block key 0 nonce))
    (R := fun i w1 w2 => match i with
      | 5 | 7 => Below B1 w1 w2
      | 8 => Below w1.heap.size w1 w2
      | 9 => ∃ cs, w2 = w1.setRow g8 cs
      | _ => w2 = w1)
    (U := fun i w1 => match i with
      | 5 => Own w1 B1 5 .u8 v8 (padTo (padTo [] ad) b)
      | _ => True)
    (kill := fun j => match j with
      | 5 => some 7
      | _ => none)
    (p := fun j vs w' => match j with
      | 0 => vs 0 = .slice (some ⟨g9, 0, none⟩) 32 64
      | 1 => vs 1 = .pointer (some ⟨g9, 0, none⟩)
      | 2 => vs 2 = .agg (ints .u8 ((block key 0 nonce).take 32)).toArray
      | 3 => vs 3 = v8
      | 4 => vs 4 = .slice A ad.length c
      | 5 => Own w' B1 5 .u8 (vs 5) (padTo (padTo [] ad) b ++ lenTo ad.length 8)
      | 6 => vs 6 = .slice A' b.length c'
      | 7 => Own w' B1 5 .u8 (vs 7) (tagText ad b)
      | 8 => vs 8 = .agg (ints .u8 (tagOf key nonce ad b)).toArray
      | 9 => Blk w' g8 46 (ints .u8 (tagOf key nonce ad b))
      | _ => True)
    (ks := []) (hm := by kernel_rfl) (hc := by kernel_rfl) ?_ ?_ ?_ ?_ ?_ ?_
  · exact ⟨hT8.blk.drew, below_drewN hT8.bel 1, hT8.size, hT8.out⟩
  · intro i j vs w1 w2 hij hw hk hR h
    have keep : ∀ (v : Value) (xs : List Int), i ≠ 5 → i ≠ 7 → Own w1 B1 5 .u8 v xs → Own w2 B1 5 .u8 v xs := fun v xs h5 h7 ho => by
      match i with
      | 5 => exact absurd rfl h5
      | 7 => exact absurd rfl h7
      | 8 => exact ho.below hR
      | 9 => obtain ⟨cs, rfl⟩ := hR; exact ho.setRowOther (ho.ne_lt H8.out) cs
      | 0 | 1 | 2 | 3 | 4 | 6 | n + 10 => cases (hR : w2 = w1); exact ho
    match j with
    | 0 | 1 | 2 | 3 | 4 | 6 | 8 => exact h
    | 5 =>
      exact keep _ _ hij (fun he => hk (by subst he; rfl)) h
    | 7 =>
      refine keep _ _ (fun he => ?_) hij h
      subst he
      exact absurd (Eq.trans (by kernel_rfl : true = _) hw) (by decide)
    | 9 =>
      have h' : Blk w1 g8 46 (ints .u8 (tagOf key nonce ad b)) := h
      match i with
      | 5 => exact h'.below hR H8.out
      | 7 => exact h'.below hR H8.out
      | 8 => exact h'.belowAll hR
      | 9 => exact absurd rfl hij
      | 0 | 1 | 2 | 3 | 4 | 6 | n + 10 => cases (hR : w2 = w1); exact h'
    | n + 10 => trivial
  · intro j
    match j with
    | 5 => exact ho8.drew
    | 0 | 1 | 2 | 3 | 4 | n + 6 => trivial
  · intro i j w1 w2 hij hw hR h
    match j with
    | 0 | 1 | 2 | 3 | 4 | n + 6 => trivial
    | 5 =>
      have h' : Own w1 B1 5 .u8 v8 (padTo (padTo [] ad) b) := h
      match i with
      | 5 => exact absurd rfl hij
      | 7 => exact absurd (Eq.trans (by kernel_rfl : true = _) hw) (by decide)
      | 8 => exact h'.below hR
      | 9 => obtain ⟨cs, rfl⟩ := hR; exact h'.setRowOther (h'.ne_lt H8.out) cs
      | 0 | 1 | 2 | 3 | 4 | 6 | n + 10 => cases (hR : w2 = w1); exact h'
  · refine ⟨?_, ?_, ?_, ?_, ?_, ?_, ?_, ?_, ?_, ?_, trivial⟩
    · (intro vs w2 hS hU hd; simp [Region.binds, Fact.at] at hd; simp only [fill, List.take_succ_cons, List.take_zero, Act.put, List.setIfInBounds_toArray, List.set_cons_zero, List.set_cons_succ, Nat.reduceAdd])
      try simp only [hd]
      go_wp2_with fail
      exact ⟨rfl, rfl, hS, rfl⟩
    · (intro vs w2 hS hU hd; simp [Region.binds, Fact.at] at hd; simp only [fill, List.take_succ_cons, List.take_zero, Act.put, List.setIfInBounds_toArray, List.set_cons_zero, List.set_cons_succ, Nat.reduceAdd])
      try simp only [hd]
      go_wp2_with (first | (refine arr_ptr rfl 23 _ rfl ⟨g9, 0, none⟩ 32 64 32 5 rfl arr23 (by omega) ?_) | fail)
      exact ⟨rfl, rfl, hS, rfl⟩
    · (intro vs w2 hS hU hd; simp [Region.binds, Fact.at] at hd; simp only [fill, List.take_succ_cons, List.take_zero, Act.put, List.setIfInBounds_toArray, List.set_cons_zero, List.set_cons_succ, Nat.reduceAdd])
      simp only [hd]
      have hb2 := hS.blk
      go_wp2_with (first | (refine load_in rfl 23 _ rfl g9 0 rfl (ints .u8 ((block key 0 nonce).take 32)) (fun j v hv => by rw [hb2.cell, Nat.zero_add]; exact take_get hv) 32 5 arr23 (by simp [ints, block_length]) info23 ?_) | fail)
      exact ⟨rfl, rfl, hS, rfl⟩
    · (intro vs w2 hS hU hd; simp [Region.binds, Fact.at] at hd; simp only [fill, List.take_succ_cons, List.take_zero, Act.put, List.setIfInBounds_toArray, List.set_cons_zero, List.set_cons_succ, Nat.reduceAdd])
      try simp only [hd]
      go_wp2_with fail
      exact ⟨rfl, rfl, hS, rfl⟩
    · (intro vs w2 hS hU hd; simp [Region.binds, Fact.at] at hd; simp only [fill, List.take_succ_cons, List.take_zero, Act.put, List.setIfInBounds_toArray, List.set_cons_zero, List.set_cons_succ, Nat.reduceAdd])
      try simp only [hd]
      go_wp2_with fail
      exact ⟨rfl, rfl, hS, rfl⟩
    · (intro vs w2 hS hU hd; simp [Region.binds, Fact.at] at hd; simp only [fill, List.take_succ_cons, List.take_zero, Act.put, List.setIfInBounds_toArray, List.set_cons_zero, List.set_cons_succ, Nat.reduceAdd])
      obtain ⟨h3, h4⟩ := hd
      have hU' : Own w2 B1 5 .u8 v8 (padTo (padTo [] ad) b) := hU
      simp only [h3, h4]
      go_wp2_with (first | (go_at_call 52; refine (length_calls B1 v8 (padTo (padTo [] ad) b) A c ad.length w2 hU' HPL.out (by omega) hS.size).mono ?_; rintro e w3 ⟨v9, rfl, ho9, hB9⟩) | fail)
      exact ⟨rfl, ho9, hS.below hB9 H8.out H9.out HW.out, hB9⟩
    · (intro vs w2 hS hU hd; simp [Region.binds, Fact.at] at hd; simp only [fill, List.take_succ_cons, List.take_zero, Act.put, List.setIfInBounds_toArray, List.set_cons_zero, List.set_cons_succ, Nat.reduceAdd])
      try simp only [hd]
      go_wp2_with fail
      exact ⟨rfl, rfl, hS, rfl⟩
    · (intro vs w2 hS hU hd; simp [Region.binds, Fact.at] at hd; simp only [fill, List.take_succ_cons, List.take_zero, Act.put, List.setIfInBounds_toArray, List.set_cons_zero, List.set_cons_succ, Nat.reduceAdd])
      obtain ⟨h5, h6, _⟩ := hd
      simp only [h6]
      go_wp2_with (first | (go_at_call 52; refine (length_calls B1 (vs 5) (padTo (padTo [] ad) b ++ lenTo ad.length 8) A' c' b.length w2 h5 HPL2.out (by omega) hS.size).mono ?_; rintro e w3 ⟨v9, rfl, ho9, hB9⟩) | fail)
      exact ⟨rfl, ho9, hS.below hB9 H8.out H9.out HW.out, hB9⟩
    · (intro vs w2 hS hU hd; simp [Region.binds, Fact.at] at hd; simp only [fill, List.take_succ_cons, List.take_zero, Act.put, List.setIfInBounds_toArray, List.set_cons_zero, List.set_cons_succ, Nat.reduceAdd])
      obtain ⟨h2, h7⟩ := hd
      obtain ⟨T, hT⟩ : ∃ T, Hd (T = tagText ad b) := ⟨_, ⟨rfl⟩⟩
      have hTl : T.length ≤ 1000000 := by rw [hT.out]; exact HTL.out
      rw [← hT.out] at h7
      obtain ⟨A7, c7, h7v, hlc7, hA7, hrd7⟩ := h7.parts
      simp only [h2, h7v]
      go_wp2_with (first | (go_at_call 22; refine (sum_calls ((block key 0 nonce).take 32) T A7 T.length c7 w2 (by simp [block_length]) rfl hlc7 hrd7 hTl).mono ?_; rintro e w3 ⟨rfl, hB9⟩) | fail)
      exact ⟨rfl, by rw [hT.out]; rfl, hS.below ⟨hB9.os, hB9.tape, hB9.output, hB9.size, fun k hk => hB9.block k (Nat.lt_of_lt_of_le hk hS.size)⟩ H8.out H9.out HW.out, hB9⟩
    · (intro vs w2 hS hU hd; simp [Region.binds, Fact.at] at hd; simp only [fill, List.take_succ_cons, List.take_zero, Act.put, List.setIfInBounds_toArray, List.set_cons_zero, List.set_cons_succ, Nat.reduceAdd])
      obtain ⟨old, hbo, hol⟩ := hS.out
      simp only [hd.1]
      go_wp2_with (first | (refine store_blk rfl 46 _ _ rfl g8 (ints .u8 (tagOf key nonce ad b)) rfl rfl 46 old hbo 16 infoT16 (by simp [ints, tagOf, polySum_length]) hol (ints_one _ _) ?_) | fail)
      have hne : g9 ≠ g8 := H89.out
      exact ⟨rfl, hbo.setRow _, ⟨hS.blk.setRowOther hne _, below_setRow hS.bel hgl8 _, by simpa [World.setRow] using hS.size, _, hbo.setRow _, by simp [ints, tagOf, polySum_length]⟩, ⟨_, rfl⟩⟩
  · intro vs wq hf hS
    have h9 : Blk wq g8 46 (ints .u8 (tagOf key nonce ad b)) := hf 9 (by simp) rfl
    simp only [fill, Act.put, List.setIfInBounds_toArray, List.set_cons_zero, List.set_cons_succ, Nat.reduceAdd]
    clear hf
    go_wp2_with fail
    refine bodyPost_ret (results_blk rfl _ _ g8 46 _ 16 5 rfl h9 undT16 (by simp [ints, tagOf, polySum_length]) infoT16) rfl ?_
    exact ⟨rfl, hS.bel⟩
end Go.Proofs.YtpmmmbilfblcpaaDoor
