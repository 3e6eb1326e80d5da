/- The law AeadParts. -/
import Derived.Test.YtpmmmbilfblcpaaDoorFirst7
import Derived.Test.YtpmmmbilfblcpaaDoorBytes
import Derived.Test.YtpmmmbilfblcpaaDoorVals
import Derived.Test.YtpmmmbilfblcpaaDoorFactsU
import Derived.Great.BuildSlice
namespace Go.Proofs.YtpmmmbilfblcpaaDoor
open Go.RowKit Go.Cour
/-- append(s, ys...), guarded or not; ys lies somewhere. -/
theorem append_list_in {P : Program} {w : World} {ops : Array Oper} {rest : List Oper} {o : Oper} {a : Act} {Q : Exit → Act → World → Prop} (hw : Region.wanted o (yielded ops a.tmps) = true) (s x : Operand) (t : TypeId)
    (ho : o.op = .call { callee := .builtin .append, args := #[s, x], argTypes := #[t, t] })
    (base : Nat) (e : TypeId) (k : IntKind) (bytes : Nat) (ht : P.underlying t = some (.slice e)) (hi : (P.info? e).map (fun i => (i.zero, i.size, i.bytes)) = some (some (.int k 0), 1, bytes))
    (v : Value) (xs : List Int) (hs : a.eval s = v) (hown : Own w base e k v xs)
    (g f m c : Nat) (ys : List Int) (hx : a.eval x = .slice (some ⟨g, f, none⟩) m c) (hm : m = ys.length) (hr : Rd w (some ⟨g, f, none⟩) k ys)
    (hbytes : (xs.length + ys.length) * bytes ≤ 140737488355328) (h63 : xs.length + ys.length ≤ 140737488355328) (hbase : base ≤ w.heap.size)
    (h : ∀ v' w', Own w' base e k v' (xs ++ ys) → w.grownBy w' v.ownBlock → wpList P ops Q rest (a.put o.dst v') w') : wpList P ops Q (o :: rest) a w := by
  obtain ⟨i, hi0, hz0, hz1, hz2⟩ := info_parts hi
  subst hm
  refine wpList_step fun K hK => ?_
  rw [if_pos hw]
  refine wp_append_own w s x t ho base e i (.int k 0) 1 bytes ht hi0 hz0 hz1 hz2 rfl (by decide) v xs.length (ints k xs) hs hown ⟨g, f, none⟩ ys.length c (ints k ys) hx (by simp) ?_ ?_ (by unfold maxLen; omega) hbytes hbase ?_
  · intro j u hj
    have hjl : j < ys.length := by
      have := (List.getElem?_eq_some_iff.1 hj).1
      simpa using this
    rw [ints_get k ys j hjl] at hj
    injection hj with hj
    subst hj
    rw [add_lit]
    exact hr.cellAt j hjl
  · intro u hu
    obtain ⟨y, _, rfl⟩ := List.mem_map.1 hu
    rfl
  · intro v' w' ho' hg' _
    refine hK _ _ (h v' w' ?_ hg')
    unfold Own
    rw [List.length_append, ints_append]
    exact ho'
/-- What stays while a seal's parts are laid. -/
structure ParS (w wr : World) (g4 g5 gx : Nat) (key nonce X : List Int) : Prop where
  k : Blk wr g4 23 (ints .u8 key)
  n : Blk wr g5 24 (ints .u8 nonce)
  x : Blk wr gx 5 (ints .u8 X)
  bel : Below w.heap.size w wr
theorem ParS.below {w wr wx : World} {g4 g5 gx : Nat} {key nonce X : List Int} (h : ParS w wr g4 g5 gx key nonce X) (hb : Below wr.heap.size wr wx) : ParS w wx g4 g5 gx key nonce X :=
  ⟨h.k.belowAll hb, h.n.belowAll hb, h.x.belowAll hb, below_then h.bel h.bel.size hb⟩
theorem ParS.grown {w wr wx : World} {g4 g5 gx base : Nat} {key nonce X xs : List Int} {v : Value} {e : TypeId} (h : ParS w wr g4 g5 gx key nonce X) (ho : Own wr base e .u8 v xs) (hg : wr.grownBy wx v.ownBlock) (h4 : g4 < base) (h5 : g5 < base) (hx : gx < base) (hw : w.heap.size ≤ base) : ParS w wx g4 g5 gx key nonce X :=
  ⟨h.k.grown hg (fun he => ho.ne_lt h4 he.symm), h.n.grown hg (fun he => ho.ne_lt h5 he.symm), h.x.grown hg (fun he => ho.ne_lt hx he.symm), h.bel.grown hg h.bel.size (fun j hj => Nat.le_trans hw (ho.base_le j hj))⟩
theorem ParS.setCell {w wr : World} {g4 g5 gx : Nat} {key nonce X : List Int} (h : ParS w wr g4 g5 gx key nonce X) (g i : Nat) (v : Value) (h4 : g4 < g) (h5 : g5 < g) (hx : gx < g) (hw : w.heap.size ≤ g) : ParS w (wr.setCell ⟨g, i, none⟩ v) g4 g5 gx key nonce X :=
  ⟨h.k.setOther (by simp; omega) _, h.n.setOther (by simp; omega) _, h.x.setOther (by simp; omega) _, h.bel.setCell (by simp; omega) _⟩
theorem ParS.drewN {w wr : World} {g4 g5 gx : Nat} {key nonce X : List Int} (h : ParS w wr g4 g5 gx key nonce X) (n : Nat) : ParS w (wr.drewN n) g4 g5 gx key nonce X := ⟨h.k.drewN n, h.n.drewN n, h.x.drewN n, below_drewN h.bel n⟩
/-- What stays while the seal is held against its parts. -/
structure ParT (w : World) (g4 g5 g15 B8 : Nat) (key nonce T : List Int) (wr : World) : Prop where
  k : Blk wr g4 23 (ints .u8 key)
  n : Blk wr g5 24 (ints .u8 nonce)
  t : Blk wr g15 46 (ints .u8 T)
  bel : Below w.heap.size w wr
  size : B8 ≤ wr.heap.size
theorem ParT.below {w wr wx : World} {g4 g5 g15 B8 : Nat} {key nonce T : List Int} (h : ParT w g4 g5 g15 B8 key nonce T wr) (hb : Below wr.heap.size wr wx) : ParT w g4 g5 g15 B8 key nonce T wx :=
  ⟨h.k.belowAll hb, h.n.belowAll hb, h.t.belowAll hb, below_then h.bel h.bel.size hb, Nat.le_trans h.size hb.size⟩
theorem ParT.grown {w wr wx : World} {g4 g5 g15 gx B8 : Nat} {key nonce T : List Int} (h : ParT w g4 g5 g15 B8 key nonce T wr) (hg : wr.grownBy wx (some gx)) (h4 : g4 ≠ gx) (h5 : g5 ≠ gx) (ht : g15 ≠ gx) (hx : w.heap.size ≤ gx) : ParT w g4 g5 g15 B8 key nonce T wx :=
  ⟨h.k.grown hg (by simpa using h4), h.n.grown hg (by simpa using h5), h.t.grown hg (by simpa using ht), h.bel.grown hg h.bel.size (fun j hj => by injection hj with hj; omega), Nat.le_trans h.size hg.size⟩
/-- A list whose first i are another's. -/
def partTo (S : List Int) (i : Nat) : List Int := S.take i ++ List.replicate (32 - i) 0
theorem partTo_length (S : List Int) (i : Nat) (h : i ≤ 32) (hs : 32 ≤ S.length) : (partTo S i).length = 32 := by simp [partTo]; omega
theorem partTo_set (S : List Int) (i : Nat) (h : i < 32) (hs : 32 ≤ S.length) : (partTo S i).set i (rd S i) = partTo S (i + 1) := by
  have hl : (S.take i).length = i := by rw [List.length_take]; omega
  unfold partTo
  rw [List.set_append_right _ _ (by omega), hl, Nat.sub_self, show 32 - i = (32 - (i + 1)) + 1 by omega, List.replicate_succ, List.set_cons_zero, List.take_add_one, List.append_assoc]
  congr 1
  have hlx : i < S.length := by omega
  rw [List.getElem?_eq_getElem hlx]
  simp [rd, hlx]
theorem partTo_all (S : List Int) : partTo S 32 = S.take 32 := by simp [partTo]
theorem padTo_mod (xs b : List Int) (hx : xs.length % 16 = 0) : (padTo xs b).length % 16 = 0 := by
  rw [padTo_length]; unfold gap; omega
theorem snoc_zero (xs : List Int) (j : Nat) : xs ++ List.replicate j 0 ++ [0] = xs ++ List.replicate (j + 1) (0 : Int) := by
  rw [List.append_assoc, List.replicate_succ', ]
theorem lenTo_small (n : Nat) (h : n < 256) : lenTo n 8 = [(n : Int), 0, 0, 0, 0, 0, 0, 0] := by
  have hz : ∀ d : Int, 256 ≤ d → (n : Int) / d = 0 := fun d hd => Int.ediv_eq_zero_of_lt (by omega) (by omega)
  simp only [lenTo, List.range_succ, List.range_zero, List.map_append, List.map_cons, List.map_nil, List.nil_append, List.cons_append]
  simp only [Nat.mul_zero, Int.pow_zero, Int.ediv_one]
  rw [hz (2 ^ (8 * 1)) (by decide), hz (2 ^ (8 * 2)) (by decide), hz (2 ^ (8 * 3)) (by decide), hz (2 ^ (8 * 4)) (by decide), hz (2 ^ (8 * 5)) (by decide), hz (2 ^ (8 * 6)) (by decide), hz (2 ^ (8 * 7)) (by decide)]
  rw [Int.emod_eq_of_lt (by omega) (by omega)]
  rfl
theorem tagText_eq (ad X : List Int) (h1 : ad.length < 256) (h2 : X.length < 256) :
    tagText ad X = padTo (padTo [] ad) X ++ [(ad.length : Int), 0, 0, 0, 0, 0, 0, 0, (X.length : Int), 0, 0, 0, 0, 0, 0, 0] := by
  rw [tagText, lenTo_small _ h1, lenTo_small _ h2, List.append_assoc]; rfl
theorem fill16 (a b : Int) : ∀ u ∈ ints .u8 [a, 0, 0, 0, 0, 0, 0, 0, b, 0, 0, 0, 0, 0, 0, 0], u.cells = #[u] := by
  intro u hu
  obtain ⟨y, _, rfl⟩ := List.mem_map.1 hu
  rfl
theorem zeroKey : ((Tryd.prog.info? 23).bind (·.zero)).map (·.cells) = some (ints .u8 (List.replicate 32 0)).toArray := by kernel_rfl
theorem sizeU8' : (Tryd.prog.info? 5).map (·.size) = some 1 := by kernel_rfl
theorem zeroU8' : ((Tryd.prog.info? 5).bind (·.zero)).isSome = true := by kernel_rfl
set_option maxHeartbeats 2000000 in
set_option maxRecDepth 100000 in
theorem aeadParts_calls (key nonce ad b : List Int) (A A' : Option Addr) (c c' n n' : Nat) {w : World} {P : Nat → Addr} (hE : Errs w P) (hk : key.length = 32) (hnl : nonce.length = 12) (rk : bytesOk key) (rn : bytesOk nonce)
    (hn : n = ad.length) (hA : A = none → c = 0) (hr : Rd w A .u8 ad) (hn' : n' = b.length) (hr' : Rd w A' .u8 b) (hm : n ≤ 9223372036854775807) (hm' : n' ≤ 9223372036854775807) :
    Calls Tryd.prog 6 #[.agg (ints .u8 key).toArray, .agg (ints .u8 nonce).toArray, .slice A n c, .slice A' n' c'] w fun e w' => e = .returned (.bool true) ∧ Below w.heap.size w w' := by
  have HN := hid hn
  have HN' := hid hn'
  have HR := hid hr
  have HR' := hid hr'
  clear hn hn' hr hr'
  by_cases hl : 60 < n ∨ 60 < n'
  · by_cases hl1 : 60 < n
    · have hl2 : (60 : Int) < n := by omega
      clear hl
      go_enter Tryd.func6, Tryd.ntmps6
      go_wp2_with (first
        | (refine box_blk rfl 23 _ rfl _ rfl (ints .u8 key) rfl ?_; intro g4 w1 hg4 hb4 hB1 hs1)
        | (refine box_blk rfl 24 _ rfl _ rfl (ints .u8 nonce) rfl ?_; intro g5 w2 hg5 hb5 hB2 hs2; have hB := below_then hB1 hB1.size hB2; clear hg4 hg5 hs1 hs2)
        | (go_at_call 11; refine (first7_calls (hE.below hB)).mono ?_; rintro e w3 ⟨rfl, hB3⟩)
        | fail)
      go_ret
      exact ⟨rfl, below_then hB hB.size hB3⟩
    · have hl2 : ¬ (60 : Int) < n := by omega
      have hl3 : (60 : Int) < n' := by omega
      clear hl
      go_enter Tryd.func6, Tryd.ntmps6
      go_wp2_with (first
        | (refine box_blk rfl 23 _ rfl _ rfl (ints .u8 key) rfl ?_; intro g4 w1 hg4 hb4 hB1 hs1)
        | (refine box_blk rfl 24 _ rfl _ rfl (ints .u8 nonce) rfl ?_; intro g5 w2 hg5 hb5 hB2 hs2; have hB := below_then hB1 hB1.size hB2; clear hg4 hg5 hs1 hs2)
        | (go_at_call 11; refine (first7_calls (hE.below hB)).mono ?_; rintro e w3 ⟨rfl, hB3⟩)
        | fail)
      go_ret
      exact ⟨rfl, below_then hB hB.size hB3⟩
  · have hl2 : ¬ (60 : Int) < n := by omega
    have hl3 : ¬ (60 : Int) < n' := by omega
    have hn60 : n ≤ 60 := by omega
    have hn60' : n' ≤ 60 := by omega
    clear hl hm hm'
    obtain ⟨X, hX⟩ : ∃ X, Hd (xorStream key 1 nonce b = X) := ⟨_, ⟨rfl⟩⟩
    have hXl : Hd (n' = X.length) := hid (by rw [← hX.out, xorStream_length]; exact HN'.out)
    obtain ⟨S, hS⟩ : ∃ S, Hd (block key 0 nonce = S) := ⟨_, ⟨rfl⟩⟩
    have hSl : Hd (S.length = 64) := hid (by rw [← hS.out, block_length])
    go_enter Tryd.func6, Tryd.ntmps6
    go_wp2_with (first
      | (refine box_blk rfl 23 _ rfl _ rfl (ints .u8 key) rfl ?_; intro g4 w1 hg4 hb4 hB1 hs1)
      | (refine box_blk rfl 24 _ rfl _ rfl (ints .u8 nonce) rfl ?_; intro g5 w2 hg5 hb5 hB2 hs2
         have hB := below_then hB1 hB1.size hB2
         have hb4' := hb4.belowAll hB2
         have h45 : g4 < w2.heap.size ∧ g5 < w2.heap.size ∧ w.heap.size ≤ w2.heap.size := by omega
         have h45 := hid h45
         clear hg4 hg5 hs1 hs2)
      | (go_at_call 11; refine (first7_calls (hE.below hB)).mono ?_; rintro e w3 ⟨rfl, hB3⟩
         have hb4a := hb4'.belowAll hB3
         have hb5a := hb5.belowAll hB3
         have hBa := below_then hB hB.size hB3)
      | (refine load_blk rfl 23 _ rfl g4 rfl 23 _ hPS.k 32 5 arr23 (by simp [ints, hk]) info23 ?_)
      | (refine load_blk rfl 24 _ rfl g5 rfl 24 _ hPS.n 12 5 arr24 (by simp [ints, hnl]) info24 ?_)
      | (refine load_blk rfl 23 _ rfl g4 rfl 23 _ hb4a 32 5 arr23 (by simp [ints, hk]) info23 ?_)
      | (refine load_blk rfl 24 _ rfl g5 rfl 24 _ hb5a 12 5 arr24 (by simp [ints, hnl]) info24 ?_)
      | (go_at_call 20; refine (xor_calls' key nonce b 1 A' n' c' w3 HN'.out hk hnl rk rn (by omega) (HR'.out.below hBa) (by rw [← HN'.out]; omega)).mono ?_
         rintro e w4 ⟨gx, rfl, hgx, hbx, hB4⟩
         rw [hX.out] at hbx
         have hPS : ParS w w4 g4 g5 gx key nonce X := ⟨hb4a.belowAll hB4, hb5a.belowAll hB4, hbx, below_then hBa hBa.size hB4⟩
         have hgx4 : Hd (g4 < w4.heap.size ∧ g5 < w4.heap.size ∧ gx < w4.heap.size ∧ w.heap.size ≤ w4.heap.size) := hid (by have := h45.out; have := hB3.size; have := hB4.size; have := hbx.lt; omega)
         have hgxw : Hd (w.heap.size ≤ gx) := hid (by have := h45.out; have := hB3.size; omega))
      | (go_at_call 21; refine (block_calls key nonce 0 _ hk hnl rk rn (by omega)).mono ?_; rintro e w5 ⟨he5, hB5⟩; rw [hS.out] at he5; subst he5)
      | (refine alloc_blk rfl 44 rfl _ rfl (ints .u8 (List.replicate 64 0)) zeroT64 ?_; intro g11 w6 hg11 hb11 hB6 hs6)
      | (refine store_blk rfl 44 _ _ rfl g11 (ints .u8 S) rfl rfl 44 _ hb11 64 infoT64 (by simp [ints, hSl.out]) (by simp [ints]) (ints_one _ _) ?_
         have hb11' := hb11.setRow (ints .u8 S)
         have hbw7 := below_setRow (g := g11) hB6 (by omega) (ints .u8 S).toArray
         generalize hW7 : w6.setRow g11 (ints .u8 S).toArray = w7 at *
         have hB47 : Below w4.heap.size w4 w7 := below_then hB5 hB5.size hbw7
         have hPS7 := hPS.below hB47
         have hg11x : Hd (g4 < g11 ∧ g5 < g11 ∧ gx < g11 ∧ w.heap.size ≤ g11) := hid (by have := hgx4.out; have := hB5.size; omega)
         clear hg11 hs6 hW7)
      | (refine alloc_blk rfl 23 rfl _ rfl (ints .u8 (List.replicate 32 0)) zeroKey ?_; intro g12 w8 hg12 hb12 hB8 hs8
         have hb11a := hb11'.belowAll hB8
         have hPS8 := hPS7.below hB8
         have hg12x : Hd (g4 < g12 ∧ g5 < g12 ∧ gx < g12 ∧ w.heap.size ≤ g12 ∧ g11 ≠ g12) := hid (by have := hg11x.out; have := hb11'.lt; omega)
         clear hg12 hs8)
      | fail)
    go_loopg [13] 33 (fun kq v13 wr => ∃ i : Nat, i ≤ 32 ∧ v13 = .int .i64 i ∧ Hd (kq + i = 33) ∧ ParS w wr g4 g5 gx key nonce X ∧ Blk wr g11 44 (ints .u8 S) ∧ Blk wr g12 23 (ints .u8 (partTo S i)))
    case atStart => exact ⟨0, by omega, rfl, hid (by omega), hPS8, hb11a, by simpa [partTo] using hb12⟩
    case round =>
      clear hPS hPS7 hPS8 hb11 hb11' hb11a hb12 hb4 hb4' hb4a hb5 hb5a hbx
      obtain ⟨i, hi, rfl, hq, hPS, hb11, hb12⟩ := hrel
      obtain ⟨O, hO⟩ : ∃ O, Hd (partTo S i = O) := ⟨_, ⟨rfl⟩⟩
      have hOl : Hd (O.length = 32) := hid (by rw [← hO.out]; exact partTo_length S i hi (by rw [hSl.out]; omega))
      rw [hO.out] at hb12
      by_cases hlt : i < 32
      · have a1 : (i : Int) < 32 := by omega
        have a2 : (i : Int) < 64 := by omega
        have cs := hb11.cellI i (by rw [hSl.out]; omega)
        have co := hb12.cellI i (by rw [hOl.out]; omega)
        have fo := hb12.frozen i
        have hOn : Hd (O.set i (rd S i) = partTo S (i + 1)) := hid (by rw [← hO.out, partTo_set S i hlt (by rw [hSl.out]; omega)])
        go_wp2_with fail
        go_roundg (gk - 1)
        case measure => have := hq.out; omega
        case rel =>
          have hx := hg12x.out
          refine ⟨i + 1, by omega, by go_num, hid (by have := hq.out; omega), hPS.setCell g12 i _ hx.1 hx.2.1 hx.2.2.1 hx.2.2.2.1, hb11.setOther (by simp; omega) _, ?_⟩
          rw [← hOn.out]
          exact hb12.setI i _
      · obtain rfl : i = 32 := by omega
        have hO32 : Hd (O = S.take 32) := hid (by rw [← hO.out, partTo_all])
        clear hlt hi hb11
        go_wp2_with (first
          | (go_at_call 15; refine (bytes_calls ad A c n wr HN.out (HR.out.below hPS.bel) (by omega)).mono ?_
             rintro e w9 ⟨v14, rfl, ho14, hB9⟩)
          | fail)
        have hPS9 := hPS.below hB9
        have hb12a := hb12.belowAll hB9
        obtain ⟨B, hBe⟩ : ∃ B, Hd (wr.heap.size = B) := ⟨_, ⟨rfl⟩⟩
        rw [hBe.out] at ho14
        have hBx : Hd (g4 < B ∧ g5 < B ∧ gx < B ∧ w.heap.size ≤ B ∧ g12 < B) := hid (by rw [← hBe.out]; exact ⟨hPS.k.lt, hPS.n.lt, hPS.x.lt, hPS.bel.size, hb12.lt⟩)
        have hB9s : B ≤ w9.heap.size := by rw [← hBe.out]; exact hB9.size
        clear hPS hb12
        obtain ⟨G, hGe⟩ : ∃ G, Hd (gap n = G) := ⟨_, ⟨rfl⟩⟩
        have hGl : G < 16 := by rw [← hGe.out]; exact gap_lt n
        have hGG : Hd (∀ j, j ≤ G → ((ad.length + j) % 16 = 0 ↔ j = G)) := hid (fun j hj => by
          have h1 := hGe.out
          have h2 := HN.out
          unfold gap at h1
          omega)
        have hLG : Hd (ad.length ≤ 60) := hid (by rw [← HN.out]; omega)
        go_loopg [14] (G + 1) (fun kq v14 wr => ∃ j : Nat, j ≤ G ∧ Hd (kq + j = G + 1) ∧ Own wr B 5 .u8 v14 (ad ++ List.replicate j 0) ∧ ParS w wr g4 g5 gx key nonce X ∧ Blk wr g12 23 (ints .u8 O) ∧ B ≤ wr.heap.size)
        case atStart => exact ⟨0, by omega, hid (by omega), by simpa using ho14, hPS9, hb12a, hB9s⟩
        case round =>
          obtain ⟨j, hj, hq, ho, hPS, hb12, hBs⟩ := hrel
          obtain ⟨ts, hts⟩ : ∃ ts, Hd (ad ++ List.replicate j 0 = ts) := ⟨_, ⟨rfl⟩⟩
          have hlen : Hd (ts.length ≤ 76) := hid (by rw [← hts.out, List.length_append, List.length_replicate]; have := hLG.out; omega)
          rw [hts.out] at ho
          obtain ⟨A1, c1, hv, hc1, hA1, hr1⟩ := id ho.parts
          obtain ⟨L, hL⟩ : ∃ L, Hd (ts.length = L) := ⟨_, ⟨rfl⟩⟩
          rw [hL.out] at hv hc1
          have hmod : L % 16 = 0 ↔ j = G := by
            have e : L = (ad).length + j := by rw [← hL.out, ← hts.out, List.length_append, List.length_replicate]
            rw [e]; exact hGG.out j hj
          subst hv
          obtain ⟨r, hr⟩ : ∃ r : Nat, Hd (L % 16 = r) := ⟨_, ⟨rfl⟩⟩
          have h1 : (L : Int).tmod 16 = (r : Int) := by rw [Int.tmod_eq_emod_of_nonneg (by omega), ← hr.out]; omega
          have h1' : (L : Int) % 16 = (r : Int) := by rw [← hr.out]; omega
          have HR1 := hid hr1
          clear hr1
          by_cases hlt : j < G
          · have hr0 : ((r : Int) != 0) = true := by have := hr.out; have := hmod; rw [bne_iff_ne]; omega
            have hr0' : ((r : Int) == 0) = false := by have := hr.out; have := hmod; rw [beq_eq_false_iff_ne]; omega
            have hts1 : Hd (ts ++ [0] = ad ++ List.replicate (j + 1) 0) := hid (by rw [← hts.out, snoc_zero])
            have HJ := hid hlt
            clear hmod hlt
            go_wp2_with (first
              | (at_builtin; refine append_one rfl (.tmp 50) (.tmp 51) 25 rfl B 5 .u8 1 undBytes infoU8 _ ts rfl ho 0 rfl (by have := hlen.out; omega) (by have := hlen.out; omega) hBs ?_; intro v' w2 ho' hg'; rw [hts1.out] at ho')
              | fail)
            go_roundg (gk - 1)
            case measure => have := hq.out; omega
            case rel => have hx := hBx.out; exact ⟨j + 1, by have := HJ.out; omega, hid (by have := hq.out; omega), ho', hPS.grown ho hg' hx.1 hx.2.1 hx.2.2.1 hx.2.2.2.1, hb12.grown hg' (fun he => ho.ne_lt hx.2.2.2.2 he.symm), Nat.le_trans hBs hg'.size⟩
          · have hjg : j = G := by omega
            have hr0 : ((r : Int) != 0) = false := by have := hr.out; have := hmod; rw [bne_eq_false_iff_eq]; omega
            have hr0' : ((r : Int) == 0) = true := by have := hr.out; have := hmod; rw [beq_iff_eq]; omega
            clear hmod hlt
            subst hjg
            have hM1 : Hd (padTo [] ad = ts) := hid (by rw [← hts.out, padTo, List.nil_append, ← HN.out, hGe.out])
            obtain ⟨M2, hM2⟩ : ∃ M2, Hd (ts ++ X = M2) := ⟨_, ⟨rfl⟩⟩
            have hXb := hid (Rd.ofBlk hPS.x)
            go_wp2_with (first
              | (at_builtin; refine append_list rfl (.tmp 53) (.tmp 54) 25 rfl B 5 .u8 1 undBytes infoU8 _ ts rfl ho (some ⟨gx, 0, none⟩) n' n' X rfl hXl.out (by intro h; cases h) hXb.out (by rw [← hXl.out]; have := hlen.out; omega) (by rw [← hXl.out]; have := hlen.out; omega) hBs ?_; intro v2 w2 ho2 hg2; rw [hM2.out] at ho2)
              | fail)
            have hx := hBx.out
            have hPS2 := hPS.grown ho hg2 hx.1 hx.2.1 hx.2.2.1 hx.2.2.2.1
            have hb12b := hb12.grown hg2 (fun he => ho.ne_lt hx.2.2.2.2 he.symm)
            have hBs2 := Nat.le_trans hBs hg2.size
            obtain ⟨H, hHe⟩ : ∃ H, Hd (gap n' = H) := ⟨_, ⟨rfl⟩⟩
            have hHl : H < 16 := by rw [← hHe.out]; exact gap_lt n'
            have hM2l : Hd (M2.length = ts.length + n') := hid (by rw [← hM2.out, List.length_append, ← hXl.out])
            have htm : Hd (ts.length % 16 = 0) := hid (by rw [← hM1.out]; exact padTo_mod [] ad rfl)
            have hGH : Hd (∀ j, j ≤ H → ((M2.length + j) % 16 = 0 ↔ j = H)) := hid (fun j hj => by
              have h1 := hHe.out
              have h2 := hM2l.out
              have h3 := htm.out
              unfold gap at h1
              omega)
            have hLH : Hd (M2.length ≤ 136) := hid (by have := hM2l.out; have := hlen.out; omega)
            clear hPS hb12 ho hXb htm
            go_loopg [14] (H + 1) (fun kq v14 wr => ∃ j : Nat, j ≤ H ∧ Hd (kq + j = H + 1) ∧ Own wr B 5 .u8 v14 (M2 ++ List.replicate j 0) ∧ ParS w wr g4 g5 gx key nonce X ∧ Blk wr g12 23 (ints .u8 O) ∧ B ≤ wr.heap.size)
            case atStart => exact ⟨0, by omega, hid (by omega), by simpa using ho2, hPS2, hb12b, hBs2⟩
            case round =>
              obtain ⟨j, hj, hq, ho, hPS, hb12, hBs⟩ := hrel
              obtain ⟨ts, hts⟩ : ∃ ts, Hd (M2 ++ List.replicate j 0 = ts) := ⟨_, ⟨rfl⟩⟩
              have hlen : Hd (ts.length ≤ 152) := hid (by rw [← hts.out, List.length_append, List.length_replicate]; have := hLH.out; omega)
              rw [hts.out] at ho
              obtain ⟨A1, c1, hv, hc1, hA1, hr1⟩ := id ho.parts
              obtain ⟨L, hL⟩ : ∃ L, Hd (ts.length = L) := ⟨_, ⟨rfl⟩⟩
              rw [hL.out] at hv hc1
              have hmod : L % 16 = 0 ↔ j = H := by
                have e : L = (M2).length + j := by rw [← hL.out, ← hts.out, List.length_append, List.length_replicate]
                rw [e]; exact hGH.out j hj
              subst hv
              obtain ⟨r, hr⟩ : ∃ r : Nat, Hd (L % 16 = r) := ⟨_, ⟨rfl⟩⟩
              have h1 : (L : Int).tmod 16 = (r : Int) := by rw [Int.tmod_eq_emod_of_nonneg (by omega), ← hr.out]; omega
              have h1' : (L : Int) % 16 = (r : Int) := by rw [← hr.out]; omega
              have HR1 := hid hr1
              clear hr1
              by_cases hlt : j < H
              · have hr0 : ((r : Int) != 0) = true := by have := hr.out; have := hmod; rw [bne_iff_ne]; omega
                have hr0' : ((r : Int) == 0) = false := by have := hr.out; have := hmod; rw [beq_eq_false_iff_ne]; omega
                have hts1 : Hd (ts ++ [0] = M2 ++ List.replicate (j + 1) 0) := hid (by rw [← hts.out, snoc_zero])
                have HJ := hid hlt
                clear hmod hlt
                go_wp2_with (first
                  | (at_builtin; refine append_one rfl (.tmp 60) (.tmp 61) 25 rfl B 5 .u8 1 undBytes infoU8 _ ts rfl ho 0 rfl (by have := hlen.out; omega) (by have := hlen.out; omega) hBs ?_; intro v' w2 ho' hg'; rw [hts1.out] at ho')
                  | fail)
                go_roundg (gk - 1)
                case measure => have := hq.out; omega
                case rel => have hx := hBx.out; exact ⟨j + 1, by have := HJ.out; omega, hid (by have := hq.out; omega), ho', hPS.grown ho hg' hx.1 hx.2.1 hx.2.2.1 hx.2.2.2.1, hb12.grown hg' (fun he => ho.ne_lt hx.2.2.2.2 he.symm), Nat.le_trans hBs hg'.size⟩
              · have hjg : j = H := by omega
                have hr0 : ((r : Int) != 0) = false := by have := hr.out; have := hmod; rw [bne_eq_false_iff_eq]; omega
                have hr0' : ((r : Int) == 0) = true := by have := hr.out; have := hmod; rw [beq_iff_eq]; omega
                clear hmod hlt
                subst hjg
                have hM3 : Hd (padTo (padTo [] ad) X = ts) := hid (by rw [← hts.out, padTo, hM2.out.symm, hM1.out.symm, ← hXl.out, hHe.out])
                have hM4 : Hd (ts ++ [(n : Int), 0, 0, 0, 0, 0, 0, 0, (n' : Int), 0, 0, 0, 0, 0, 0, 0] = tagText ad X) := hid (by rw [tagText_eq ad X (by rw [← HN.out]; omega) (by rw [← hXl.out]; omega), hM3.out, ← HN.out, ← hXl.out])
                obtain ⟨M4, hM4e⟩ : ∃ M4, Hd (tagText ad X = M4) := ⟨_, ⟨rfl⟩⟩
                rw [hM4e.out] at hM4
                have hM4l : Hd (M4.length ≤ 300) := hid (by rw [← hM4.out, List.length_append]; have := hlen.out; simp; omega)
                have hT : Hd (polySum O M4 = tagOf key nonce ad X) := hid (by rw [tagOf, hS.out, hM4e.out, hO32.out])
                obtain ⟨T, hTe⟩ : ∃ T, Hd (tagOf key nonce ad X = T) := ⟨_, ⟨rfl⟩⟩
                have hTl : Hd (T.length = 16) := hid (by rw [← hTe.out, tagOf_length])
                have hxB := hBx.out
                go_wp2_with (first
                  | (refine literal_vals rfl 25 5 16 _ rfl (ints .u8 [(n : Int), 0, 0, 0, 0, 0, 0, 0, (n' : Int), 0, 0, 0, 0, 0, 0, 0]) (by kernel_rfl) (fill16 _ _) undBytes sizeU8' zeroU8' rfl (by omega) (by omega) ?_; intro g70 w2 hg70 hb70 hB2x hs2
                     have ho2 := ho.below hB2x
                     have hPS2 := hPS.below hB2x
                     have hb12b := hb12.belowAll hB2x
                     have hBs2 := Nat.le_trans hBs hB2x.size
                     clear hg70 hs2)
                  | (at_builtin; refine append_list rfl (.tmp 63) (.tmp 70) 25 rfl B 5 .u8 1 undBytes infoU8 _ ts rfl ho2 (some ⟨g70, 0, none⟩) 16 16 [(n : Int), 0, 0, 0, 0, 0, 0, 0, (n' : Int), 0, 0, 0, 0, 0, 0, 0] rfl rfl (by intro h; cases h) (Rd.ofBlk hb70) (by have := hlen.out; simp; omega) (by have := hlen.out; simp; omega) hBs2 ?_
                     intro v5 w5 ho5 hg5
                     rw [hM4.out] at ho5
                     have hPS5 := hPS2.grown ho2 hg5 hxB.1 hxB.2.1 hxB.2.2.1 hxB.2.2.2.1
                     have hb12c := hb12b.grown hg5 (fun he => ho2.ne_lt hxB.2.2.2.2 he.symm)
                     obtain ⟨A5, c5, hv5, hc5, hA5, hr5⟩ := id ho5.parts
                     obtain ⟨L5, hL5⟩ : ∃ L5, Hd (M4.length = L5) := ⟨_, ⟨rfl⟩⟩
                     rw [hL5.out] at hv5 hc5
                     subst hv5
                     have hr5 := hid hr5)
                  | (refine load_blk rfl 23 _ rfl g12 rfl 23 _ hb12c 32 5 arr23 (by simp [ints, hOl.out]) info23 ?_)
                  | (go_at_call 22; refine (sum_calls O M4 A5 L5 c5 _ hOl.out hL5.out.symm hc5 hr5.out (by rw [← hL5.out]; have := hM4l.out; omega)).mono ?_
                     rintro e w6 ⟨he6, hB6x⟩
                     rw [hT.out, hTe.out] at he6
                     subst he6
                     have hPS6 := hPS5.below hB6x)
                  | (refine alloc_blk rfl 46 rfl _ rfl (ints .u8 (List.replicate 16 0)) zeroT16 ?_; intro g15 w7 hg15 hb15 hB7 hs7
                     have hPS7 := hPS6.below hB7)
                  | (refine store_blk rfl 46 _ _ rfl g15 (ints .u8 T) rfl rfl 46 _ hb15 16 infoT16 (by simp [ints, hTl.out]) (by simp [ints]) (ints_one _ _) ?_
                     have hb15' := hb15.setRow (ints .u8 T)
                     have hBw8 := below_setRow (g := g15) hB7 (by omega) (ints .u8 T).toArray
                     generalize hW8 : World.setRow w7 g15 _ = w8 at *
                     have hPS8 := hPS6.below hBw8
                     have hg15x : Hd (gx < g15) := hid (by have := hPS6.x.lt; omega)
                     clear hg15 hs7 hW8)
                  | fail)
                obtain ⟨B8, hB8⟩ : ∃ B8, Hd (w8.heap.size = B8) := ⟨_, ⟨rfl⟩⟩
                have hx8 : Hd (g4 ≠ gx ∧ g5 ≠ gx ∧ g15 ≠ gx ∧ w.heap.size ≤ gx ∧ gx < B8) := hid (by have := hg15x.out; have := hgxw.out; have := hPS8.x.lt; have := hB8.out; have := h45.out; have := hB3.size; omega)
                have hgx8 : Hd (gx < B8) := hid hx8.out.2.2.2.2
                obtain ⟨ST, hST⟩ : ∃ ST, Hd (X ++ T = ST) := ⟨_, ⟨rfl⟩⟩
                have hSeal : Hd (sealText key nonce ad b = ST) := hid (by rw [sealText, hX.out, hTe.out, hST.out])
                have hSTl : Hd (ST.length ≤ 100) := hid (by rw [← hST.out, List.length_append, ← hXl.out, hTl.out]; omega)
                have hPT : ParT w g4 g5 g15 B8 key nonce T w8 := ⟨hPS8.k, hPS8.n, hb15', hPS8.bel, by rw [hB8.out]; exact Nat.le_refl _⟩
                have hgx0 := hPS8.x
                clear hPS hPS2 hPS5 hPS6 hPS7 hPS8 hb12 hb12b hb12c hb15 hb15' ho ho2 ho5 hb70
                refine wp_region_factsU (ix := [[0], [1], [2], [3], [4], [5], [6], [7], [8], [9], [10], [11], [12]]) (S := ParT w g4 g5 g15 B8 key nonce T)
                  (R := fun iO w1 w2 => if iO = 9 then w1.grownBy w2 (some gx) else (Below w1.heap.size w1 w2))
                  (U := fun iO w1 => match iO with
                    | 9 => Blk w1 gx 5 (ints .u8 X)
                    | _ => True)
                  (kill := fun jO => match jO with
                    | _ => none)
                  (p := fun jO vs w' => match jO with
                    | 0 => vs 0 = .bool true
                    | 1 => vs 1 = .bool true
                    | 2 => vs 2 = .agg (ints .u8 key).toArray
                    | 3 => vs 3 = .agg (ints .u8 nonce).toArray
                    | 4 => vs 4 = .slice A n c
                    | 5 => vs 5 = .slice A' n' c'
                    | 6 => Own w' B8 5 .u8 (vs 6) ST
                    | 7 => vs 7 = .slice (some ⟨gx, 0, none⟩) n' n'
                    | 8 => vs 8 = .slice (some ⟨g15, 0, none⟩) 16 16
                    | 9 => Own w' w.heap.size 5 .u8 (vs 9) ST
                    | 10 => vs 10 = .bool true
                    | 11 => vs 11 = .bool true
                    | 12 => vs 12 = .bool true
                    | _ => True)
                  (ks := [])
                  (hm := by kernel_rfl) (hc := by kernel_rfl) ?_ ?_ ?_ ?_ ?_ ?_
                · exact hPT.below (below_drewN (Below.refl _ _) 1)
                · intro iO jO vs w1 w2 hij hw hkl hR h
                  have hB : iO ≠ 9 → Below w1.heap.size w1 w2 := fun h9 => by rw [if_neg h9] at hR; exact hR
                  match jO with
                  | 0 | 1 | 2 | 3 | 4 | 5 | 7 | 8 | 10 | 11 | 12 => exact h
                  | 6 => exact if h9 : iO = 9 then (by subst h9; rw [if_pos rfl] at hR; exact Own.kept h hR (.inr (Own.ne_lt h hgx8.out))) else Own.below h (hB h9)
                  | 9 => exact Own.below h (hB (fun h9 => hij h9))
                  | nO + 13 => trivial
                · intro jO
                  match jO with
                  | 9 => exact hgx0.drew
                  | 0 | 1 | 2 | 3 | 4 | 5 | 6 | 7 | 8 | 10 | 11 | 12 | nO + 13 => trivial
                · intro iO jO w1 w2 hij hw hR h
                  have hB : iO ≠ 9 → Below w1.heap.size w1 w2 := fun h9 => by rw [if_neg h9] at hR; exact hR
                  match jO with
                  | 9 => exact Blk.belowAll h (hB hij)
                  | 0 | 1 | 2 | 3 | 4 | 5 | 6 | 7 | 8 | 10 | 11 | 12 | nO + 13 => trivial
                · refine ⟨?_, ?_, ?_, ?_, ?_, ?_, ?_, ?_, ?_, ?_, ?_, ?_, ?_, trivial⟩
                  · (intro vs w2 hS hU hd; simp [Region.binds, Fact.at] at hd; simp only [fill, List.take_succ_cons, List.take_zero, Act.put, List.setIfInBounds_toArray, List.set_cons_zero, List.set_cons_succ, Nat.reduceAdd])
                    try simp only [hd]
                    go_wp2_with fail
                    exact ⟨rfl, rfl, hS, Below.refl _ _⟩
                  · (intro vs w2 hS hU hd; simp [Region.binds, Fact.at] at hd; simp only [fill, List.take_succ_cons, List.take_zero, Act.put, List.setIfInBounds_toArray, List.set_cons_zero, List.set_cons_succ, Nat.reduceAdd])
                    simp only [hd]
                    go_wp2_with fail
                    exact ⟨rfl, rfl, hS, Below.refl _ _⟩
                  · (intro vs w2 hS hU hd; simp [Region.binds, Fact.at] at hd; simp only [fill, List.take_succ_cons, List.take_zero, Act.put, List.setIfInBounds_toArray, List.set_cons_zero, List.set_cons_succ, Nat.reduceAdd])
                    simp only [hd]
                    go_wp2_with (first
                      | (refine load_in rfl 23 _ rfl g4 0 rfl (ints .u8 key) (fun j v hv => by rw [hS.k.cell, Nat.zero_add]; exact hv) 32 5 arr23 (by simp [ints, hk]) info23 ?_)
                      | fail)
                    exact ⟨rfl, rfl, hS, Below.refl _ _⟩
                  · (intro vs w2 hS hU hd; simp [Region.binds, Fact.at] at hd; simp only [fill, List.take_succ_cons, List.take_zero, Act.put, List.setIfInBounds_toArray, List.set_cons_zero, List.set_cons_succ, Nat.reduceAdd])
                    simp only [hd]
                    go_wp2_with (first
                      | (refine load_in rfl 24 _ rfl g5 0 rfl (ints .u8 nonce) (fun j v hv => by rw [hS.n.cell, Nat.zero_add]; exact hv) 12 5 arr24 (by simp [ints, hnl]) info24 ?_)
                      | fail)
                    exact ⟨rfl, rfl, hS, Below.refl _ _⟩
                  · (intro vs w2 hS hU hd; simp [Region.binds, Fact.at] at hd; simp only [fill, List.take_succ_cons, List.take_zero, Act.put, List.setIfInBounds_toArray, List.set_cons_zero, List.set_cons_succ, Nat.reduceAdd])
                    simp only [hd]
                    go_wp2_with fail
                    exact ⟨rfl, rfl, hS, Below.refl _ _⟩
                  · (intro vs w2 hS hU hd; simp [Region.binds, Fact.at] at hd; simp only [fill, List.take_succ_cons, List.take_zero, Act.put, List.setIfInBounds_toArray, List.set_cons_zero, List.set_cons_succ, Nat.reduceAdd])
                    simp only [hd]
                    go_wp2_with fail
                    exact ⟨rfl, rfl, hS, Below.refl _ _⟩
                  · (intro vs w2 hS hU hd; simp [Region.binds, Fact.at] at hd; simp only [fill, List.take_succ_cons, List.take_zero, Act.put, List.setIfInBounds_toArray, List.set_cons_zero, List.set_cons_succ, Nat.reduceAdd])
                    simp only [hd]
                    go_wp2_with (first
                      | (go_at_call 12; refine (seal_calls key nonce ad b A A' c c' n n' w2 hk hnl rk rn HN.out hA (HR.out.below hS.bel) HN'.out (HR'.out.below hS.bel) (by rw [← HN.out]; omega) (by rw [← HN'.out]; omega)).mono ?_; rintro e w3 ⟨v9, rfl, ho9, hB9y⟩; rw [hSeal.out] at ho9)
                      | fail)
                    exact ⟨rfl, ho9.lower hS.size, hS.below hB9y, hB9y⟩
                  · (intro vs w2 hS hU hd; simp [Region.binds, Fact.at] at hd; simp only [fill, List.take_succ_cons, List.take_zero, Act.put, List.setIfInBounds_toArray, List.set_cons_zero, List.set_cons_succ, Nat.reduceAdd])
                    simp only [hd]
                    go_wp2_with fail
                    exact ⟨rfl, rfl, hS, Below.refl _ _⟩
                  · (intro vs w2 hS hU hd; simp [Region.binds, Fact.at] at hd; simp only [fill, List.take_succ_cons, List.take_zero, Act.put, List.setIfInBounds_toArray, List.set_cons_zero, List.set_cons_succ, Nat.reduceAdd])
                    simp only [hd]
                    go_wp2_with fail
                    exact ⟨rfl, rfl, hS, Below.refl _ _⟩
                  · (intro vs w2 hS hU hd; simp [Region.binds, Fact.at] at hd; simp only [fill, List.take_succ_cons, List.take_zero, Act.put, List.setIfInBounds_toArray, List.set_cons_zero, List.set_cons_succ, Nat.reduceAdd])
                    have hU' : Blk w2 gx 5 (ints .u8 X) := hU
                    have hown : Own w2 w.heap.size 5 .u8 (.slice (some ⟨gx, 0, none⟩) X.length X.length) X := Own.ofBlk hU' hx8.out.2.2.2.1 (by rw [← hXl.out]; unfold maxLen; omega)
                    rw [← hXl.out] at hown
                    simp only [hd]
                    go_wp2_with (first
                      | (at_builtin; refine append_list_in rfl (.tmp 82) (.tmp 83) 25 rfl w.heap.size 5 .u8 1 undBytes infoU8 _ X rfl hown g15 0 16 16 T rfl hTl.out.symm (Rd.ofBlk hS.t) (by rw [← hXl.out, hTl.out]; omega) (by rw [← hXl.out, hTl.out]; omega) hS.bel.size ?_; intro v9 w3 ho9 hg9; rw [hST.out] at ho9)
                      | fail)
                    exact ⟨rfl, ho9, hS.grown hg9 hx8.out.1 hx8.out.2.1 hx8.out.2.2.1 hx8.out.2.2.2.1, hg9⟩
                  · (intro vs w2 hS hU hd; simp [Region.binds, Fact.at] at hd; simp only [fill, List.take_succ_cons, List.take_zero, Act.put, List.setIfInBounds_toArray, List.set_cons_zero, List.set_cons_succ, Nat.reduceAdd])
                    obtain ⟨h6, h9, h1⟩ := hd
                    obtain ⟨A6, c6, hv6, _, _, hr6⟩ := h6.parts
                    obtain ⟨A9, c9, hv9, _, _, hr9⟩ := h9.parts
                    simp only [hv6, hv9, h1]
                    go_wp2_with (first
                      | (go_at_call 13; refine (same_calls ST ST A6 A9 c6 c9 _ _ w2 rfl rfl hr6 hr9 (by have := hSTl.out; omega) (by have := hSTl.out; omega)).mono ?_; rintro e w3 ⟨he3, qd, hqd⟩; rw [decide_eq_true (rfl : ST = ST)] at he3; subst he3; have hB9y : Below w2.heap.size w2 w3 := (by rw [hqd]; exact below_drewN (Below.refl _ _) qd); clear hqd)
                      | fail)
                    exact ⟨rfl, rfl, hS.below hB9y, hB9y⟩
                  · (intro vs w2 hS hU hd; simp [Region.binds, Fact.at] at hd; simp only [fill, List.take_succ_cons, List.take_zero, Act.put, List.setIfInBounds_toArray, List.set_cons_zero, List.set_cons_succ, Nat.reduceAdd])
                    simp only [hd]
                    go_wp2_with fail
                    exact ⟨rfl, rfl, hS, Below.refl _ _⟩
                  · (intro vs w2 hS hU hd; simp [Region.binds, Fact.at] at hd; simp only [fill, List.take_succ_cons, List.take_zero, Act.put, List.setIfInBounds_toArray, List.set_cons_zero, List.set_cons_succ, Nat.reduceAdd])
                    simp only [hd]
                    go_wp2_with fail
                    exact ⟨rfl, rfl, hS, Below.refl _ _⟩
                · intro vs wq hf hS
                  have h12 : vs 12 = .bool true := hf 12 (by simp) rfl
                  simp only [fill, Act.put, List.setIfInBounds_toArray, List.set_cons_zero, List.set_cons_succ, Nat.reduceAdd]
                  clear hf
                  go_wp2_with fail
                  go_ret
                  exact ⟨congrArg Ending.returned h12, hS.bel⟩
end Go.Proofs.YtpmmmbilfblcpaaDoor
