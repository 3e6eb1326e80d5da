import Derived.Test.YtlikinglgegclaaDoorProg
import Derived.Shelf.Lays
import Derived.Shelf.Small.Bits
import Derived.Test.YtlikinglgegclaaDoorMgDL0
import Derived.Test.YtlikinglgegclaaDoorMgDL1
import Derived.Test.YtlikinglgegclaaDoorMgDL2
import Derived.Test.YtlikinglgegclaaDoorMgDL3
import Derived.Test.YtlikinglgegclaaDoorMgDL4
import Derived.Test.YtlikinglgegclaaDoorMgDL5
import Derived.Test.YtlikinglgegclaaDoorMgDL6
set_option linter.unusedSimpArgs false
set_option linter.unusedVariables false
/- The reference's seal and its opening. -/
namespace Go.Proofs.YtlikinglgegclaaDoor
open Go.RowKit Go.Cour
theorem gap_ltR (n : Nat) : gap n < 16 := Nat.mod_lt _ (by decide)
theorem padTo_lenR (xs b : List Int) : (padTo xs b).length = xs.length + b.length + gap b.length := by simp [padTo]; omega
theorem padTo_modR (xs b : List Int) (hx : xs.length % 16 = 0) : (padTo xs b).length % 16 = 0 := by
  rw [padTo_lenR]; unfold gap; omega
theorem snoc_zeroR (xs : List Int) (j : Nat) : xs ++ List.replicate j 0 ++ [0] = xs ++ List.replicate (j + 1) (0 : Int) := by
  rw [List.append_assoc, List.replicate_succ']
def onceTo (S : List Int) (i : Nat) : List Int := S.take i ++ List.replicate (32 - i) 0
theorem onceTo_length (S : List Int) (i : Nat) (h : i ≤ 32) (hs : 32 ≤ S.length) : (onceTo S i).length = 32 := by simp [onceTo]; omega
theorem onceTo_set (S : List Int) (i : Nat) (h : i < 32) (hs : 32 ≤ S.length) : (onceTo S i).set i (rd S i) = onceTo S (i + 1) := by
  have hl : (S.take i).length = i := by rw [List.length_take]; omega
  unfold onceTo
  rw [List.set_append_right _ _ (by omega), hl, Nat.sub_self, show 32 - i = (32 - (i + 1)) + 1 by omega, List.replicate_succ, List.set_cons_zero, List.take_add_one, List.append_assoc]
  congr 1
  have hlx : i < S.length := by omega
  rw [List.getElem?_eq_getElem hlx]
  simp [rd, hlx]
theorem onceTo_all (S : List Int) : onceTo S 32 = S.take 32 := by simp [onceTo]
theorem bytesOk_app {xs ys : List Int} (hx : bytesOk xs) (hy : bytesOk ys) : bytesOk (xs ++ ys) := fun i => by
  rw [rd_app]
  split
  · exact hx _
  · exact hy _
theorem bytesOk_nil : bytesOk [] := fun i => by
  have : rd [] i = 0 := by unfold rd; rfl
  omega
theorem bytesOk_lenTo (n k : Nat) : bytesOk (lenTo n k) := fun i => by
  unfold lenTo rd
  rw [List.getD_eq_getElem?_getD, List.getElem?_map]
  cases (List.range k)[i]? with
  | none => simp
  | some j => simp only [Option.map_some, Option.getD_some]; exact ⟨Int.emod_nonneg _ (by decide), Int.emod_lt_of_pos _ (by decide)⟩
theorem bytesOk_padTo {xs ys : List Int} (hx : bytesOk xs) (hy : bytesOk ys) : bytesOk (padTo xs ys) := bytesOk_app (bytesOk_app hx hy) (bytesOk_zeros' _)
theorem bytesOk_tagText {ad b : List Int} (ha : bytesOk ad) (hb : bytesOk b) : bytesOk (tagText ad b) := bytesOk_app (bytesOk_app (bytesOk_padTo (bytesOk_padTo bytesOk_nil ha) hb) (bytesOk_lenTo _ _)) (bytesOk_lenTo _ _)
/-- What the blocks of a call hold. -/
structure TG (w wr : World) (g4 g5 g8 : Nat) (key nonce : List Int) : Prop where
  k : Blk wr g4 27 (ints .u8 key)
  n : Blk wr g5 91 (ints .u8 nonce)
  t : Blk wr g8 125 (ints .u8 (List.replicate 16 0))
  bel : Below w.heap.size w wr
theorem TG.below {w wr wx : World} {g4 g5 g8 : Nat} {key nonce : List Int} (h : TG w wr g4 g5 g8 key nonce) (hb : Below wr.heap.size wr wx) : TG w wx g4 g5 g8 key nonce :=
  ⟨h.k.belowAll hb, h.n.belowAll hb, h.t.belowAll hb, below_then h.bel h.bel.size hb⟩
theorem TG.other {w wr : World} {g4 g5 g8 g : Nat} {key nonce : List Int} (h : TG w wr g4 g5 g8 key nonce) (h4 : g4 < g) (h5 : g5 < g) (h8 : g8 < g) (hw : w.heap.size ≤ g) (cs : Array Value) : TG w (wr.setRow g cs) g4 g5 g8 key nonce :=
  ⟨h.k.setRowOther (by omega) _, h.n.setRowOther (by omega) _, h.t.setRowOther (by omega) _, below_setRow h.bel hw _⟩
theorem TG.otherC {w wr : World} {g4 g5 g8 g : Nat} {key nonce : List Int} (h : TG w wr g4 g5 g8 key nonce) (h4 : g4 < g) (h5 : g5 < g) (h8 : g8 < g) (hw : w.heap.size ≤ g) (i : Nat) (v : Value) : TG w (wr.setCell ⟨g, i, none⟩ v) g4 g5 g8 key nonce :=
  ⟨h.k.setOther (by simp; omega) _, h.n.setOther (by simp; omega) _, h.t.setOther (by simp; omega) _, h.bel.setCell (by simp; omega) _⟩
theorem TG.grown {w wr wx : World} {g4 g5 g8 B : Nat} {key nonce ts : List Int} {v : Value} (h : TG w wr g4 g5 g8 key nonce) (ho : Own wr B 5 .u8 v ts) (hg : wr.grownBy wx v.ownBlock) (h4 : g4 < B) (h5 : g5 < B) (h8 : g8 < B) (hw : w.heap.size ≤ B) : TG w wx g4 g5 g8 key nonce :=
  ⟨h.k.grown hg (fun he => ho.ne_lt h4 he.symm), h.n.grown hg (fun he => ho.ne_lt h5 he.symm), h.t.grown hg (fun he => ho.ne_lt h8 he.symm), ho.grown_below h.bel hg h.bel.size hw⟩
set_option maxHeartbeats 8000000 in
set_option maxRecDepth 100000 in
theorem tagged1_calls (key nonce ad b : List Int) (A A' : Option Addr) (c c' n n' : Nat) (w : World) (hk : key.length = 32) (hnl : nonce.length = 12) (rk : bytesOk key) (rn : bytesOk nonce)
    (hn : n = ad.length) (hr : Rd w A .u8 ad) (ra : bytesOk ad) (hn' : n' = b.length) (hA' : A' = none → c' = 0) (hr' : Rd w A' .u8 b) (rb : bytesOk b) (hla : ad.length ≤ 100000) (hlb : b.length ≤ 100000) :
    Calls Tryd.prog 70 #[.agg (ints .u8 key).toArray, .agg (ints .u8 nonce).toArray, .slice A n c, .slice A' n' c'] w fun e w' => e = .returned (.agg (ints .u8 (tagOf key nonce ad b)).toArray) ∧ Below w.heap.size w w' := by
  have HK := hid hk
  have HNL := hid hnl
  have HN := hid hn
  have HN' := hid hn'
  have HR := hid hr
  have HR' := hid hr'
  have hnb : n ≤ 100000 := by omega
  have hnb' : n' ≤ 100000 := by omega
  obtain ⟨S, hS⟩ : ∃ S, Hd (block key 0 nonce = S) := ⟨_, ⟨rfl⟩⟩
  have hSl : Hd (S.length = 64) := hid (by rw [← hS.out]; exact block_length _ _ _)
  have rS : bytesOk S := by rw [← hS.out]; exact block_ok _ _ _
  have hTG : Hd (tagT (S.take 32) (tagText ad b) = tagOf key nonce ad b) := hid (by
    rw [tagOf, hS.out]
    exact tagT_eq _ _ (by rw [List.length_take, hSl.out]; rfl) (bytesOk_take rS 32) (bytesOk_tagText ra rb))
  have rM : bytesOk (tagText ad b) := bytesOk_tagText ra rb
  clear hk hnl hn hn' hr hr'
  go_enter Tryd.func70, Tryd.ntmps70
  go_wp2_with (first
    | (refine box_blk rfl 27 _ rfl _ rfl (ints .u8 key) rfl ?_; intro g4 w1 hg4 hb4 hB1 hs1)
    | (refine box_blk rfl 91 _ rfl _ rfl (ints .u8 nonce) rfl ?_; intro g5 w2 hg5 hb5 hB2 hs2)
    | (refine alloc_blk rfl 125 rfl _ rfl (ints .u8 (List.replicate 16 0)) zeroT16 ?_; intro g8 w3 hg8 hb8 hB3 hs3
       have hz : Hd (w.heap.size ≤ g4 ∧ g4 < g5 ∧ g5 < g8) := hid (by omega)
       have hT : TG w w3 g4 g5 g8 key nonce := ⟨(hb4.belowAll hB2).belowAll hB3, hb5.belowAll hB3, hb8, below_then (below_then hB1 hB1.size hB2) (by omega) hB3⟩
       clear hg4 hb4 hB1 hs1 hg5 hb5 hB2 hs2 hg8 hb8 hB3 hs3)
    | (refine load_blk rfl 27 _ rfl g4 rfl 27 _ hT.k 32 5 arr23 (by simpa using HK.out) info23 ?_)
    | (refine load_blk rfl 91 _ rfl g5 rfl 91 _ hT.n 12 5 arr24 (by simpa using HNL.out) info24 ?_)
    | (go_at_call 89; refine (block1_calls key nonce 0 _ HK.out HNL.out rk rn (by omega)).mono ?_; rintro e w4 ⟨he4, hB4⟩; rw [hS.out] at he4; subst he4
       replace hT := hT.below hB4)
    | (refine alloc_blk rfl 142 rfl _ rfl (ints .u8 (List.replicate 64 0)) (by kernel_rfl) ?_; intro g9 w5 hg9 hb9 hB5 hs5)
    | (refine store_blk rfl 142 _ _ rfl g9 (ints .u8 S) rfl rfl 142 _ hb9 64 info44 (by simpa using hSl.out) (by simp) (ints_one _ _) ?_
       have hz9 : Hd (g8 < g9) := hid (by have := hT.t.lt; omega)
       replace hT := (hT.below hB5).other (g := g9) (by have := hz.out; have := hz9.out; omega) (by have := hz.out; have := hz9.out; omega) (by have := hz9.out; omega) (by have := hz.out; have := hz9.out; omega) (ints .u8 S).toArray
       replace hb9 := hb9.setRow (ints .u8 S)
       clear hB5 hg9 hs5
       generalize w5.setRow g9 (ints .u8 S).toArray = w6 at *)
    | (refine alloc_blk rfl 27 rfl _ rfl (ints .u8 (onceTo S 0)) (by kernel_rfl) ?_; intro g10 w7 hg10 hb10 hB7 hs7)
    | fail)
  have hz10 : Hd (g9 < g10) := hid (by have := hb9.lt; omega)
  replace hb9 := hb9.belowAll hB7
  replace hT := hT.below hB7
  clear hB7 hg10 hs7
  go_loopg [11] 33 (fun kq v11 wr => ∃ i : Nat, i ≤ 32 ∧ v11 = .int .i64 i ∧ Hd (kq + i = 33) ∧ TG w wr g4 g5 g8 key nonce ∧ Blk wr g9 142 (ints .u8 S) ∧ Blk wr g10 27 (ints .u8 (onceTo S i)))
  case atStart => exact ⟨0, by omega, rfl, hid (by omega), hT, hb9, hb10⟩
  case round =>
    clear hT hb9 hb10
    obtain ⟨i, hi, rfl, hq, hT, hb9, hb10⟩ := hrel
    have hlt10 : Hd (g10 < wr.heap.size) := hid hb10.lt
    obtain ⟨O, hO⟩ : ∃ O, Hd (onceTo S i = O) := ⟨_, ⟨rfl⟩⟩
    have hOl : Hd (O.length = 32) := hid (by rw [← hO.out]; exact onceTo_length S i hi (by rw [hSl.out]; omega))
    rw [hO.out] at hb10
    by_cases hlt : i < 32
    · have a1 : (i : Int) < 32 := by omega
      have a2 : (i : Int) < 64 := by omega
      have cs := hb9.cellI i (by rw [hSl.out]; omega)
      have co := hb10.cellI i (by rw [hOl.out]; omega)
      have fo := hb10.frozen i
      have hOn : Hd (O.set i (rd S i) = onceTo S (i + 1)) := hid (by rw [← hO.out, onceTo_set S i hlt (by rw [hSl.out]; omega)])
      go_wp2_with fail
      go_roundg (gk - 1)
      case measure => have := hq.out; omega
      case rel =>
        have hx := hz.out
        have hx2 := hz9.out
        have hx3 := hz10.out
        refine ⟨i + 1, by omega, by go_num, hid (by have := hq.out; omega), hT.otherC (by omega) (by omega) (by omega) (by omega) i _, hb9.setOther (by simp; omega) _, ?_⟩
        rw [← hOn.out]
        exact hb10.setI i _
    · obtain rfl : i = 32 := by omega
      have hO32 : Hd (S.take 32 = O) := hid (by rw [← hO.out, onceTo_all])
      rw [hO32.out] at hTG
      clear hlt hi hb9 hq
      go_wp2_with (first
        | (go_at_call 23; refine (bytes_calls ad A c n wr HN.out (HR.out.below hT.bel) (by omega)).mono ?_
           rintro e w9 ⟨v12, rfl, ho, hB9⟩)
        | fail)
      replace hT := hT.below hB9
      replace hb10 := hb10.belowAll hB9
      obtain ⟨B, hBe⟩ : ∃ B, Hd (wr.heap.size = B) := ⟨_, ⟨rfl⟩⟩
      rw [hBe.out] at ho
      have hBs : B ≤ w9.heap.size := by rw [← hBe.out]; exact hB9.size
      have hBx : Hd (g4 < B ∧ g5 < B ∧ g8 < B ∧ w.heap.size ≤ B ∧ g10 < B) := hid (by
        have h1 := hz.out
        have h2 := hz9.out
        have h3 := hz10.out
        have h4 := hlt10.out
        rw [hBe.out] at h4
        omega)
      clear hB9 hBe
      obtain ⟨G, hGe⟩ : ∃ G, Hd (gap n = G) := ⟨_, ⟨rfl⟩⟩
      have hGl : G < 16 := by rw [← hGe.out]; exact gap_ltR n
      have hGG : Hd (∀ j, j ≤ G → ((ad.length + j) % 16 = 0 ↔ j = G)) := hid (fun j hj => by
        have h1 := hGe.out
        have h2 := HN.out
        unfold gap at h1
        omega)
      have hLG : Hd (ad.length ≤ 100000) := hid (by rw [← HN.out]; omega)
      go_loopg [12] (G + 1) (fun kq v12 wr => ∃ j : Nat, j ≤ G ∧ Hd (kq + j = G + 1) ∧ Own wr B 5 .u8 v12 (ad ++ List.replicate j 0) ∧ TG w wr g4 g5 g8 key nonce ∧ Blk wr g10 27 (ints .u8 O) ∧ B ≤ wr.heap.size)
      case atStart => exact ⟨0, by omega, hid (by omega), by simpa using ho, hT, hb10, hBs⟩
      case round =>
        clear ho hT hb10 hBs
        obtain ⟨j, hj, hq, ho, hT, hb10, hBs⟩ := hrel
        obtain ⟨ts, hts⟩ : ∃ ts, Hd (ad ++ List.replicate j 0 = ts) := ⟨_, ⟨rfl⟩⟩
        have hlen : Hd (ts.length ≤ 100016) := hid (by rw [← hts.out, List.length_append, List.length_replicate]; have := hLG.out; omega)
        rw [hts.out] at ho
        obtain ⟨A1, c1, hv, hc1, hA1, hr1⟩ := id ho.parts
        obtain ⟨L, hL⟩ : ∃ L, Hd (ts.length = L) := ⟨_, ⟨rfl⟩⟩
        rw [hL.out] at hv hc1
        have hmod : L % 16 = 0 ↔ j = G := by
          have e : L = (ad).length + j := by rw [← hL.out, ← hts.out, List.length_append, List.length_replicate]
          rw [e]; exact hGG.out j hj
        subst hv
        obtain ⟨r, hr⟩ : ∃ r : Nat, Hd (L % 16 = r) := ⟨_, ⟨rfl⟩⟩
        have h1 : (L : Int).tmod 16 = (r : Int) := by rw [Int.tmod_eq_emod_of_nonneg (by omega), ← hr.out]; omega
        have h1' : (L : Int) % 16 = (r : Int) := by rw [← hr.out]; omega
        have HR1 := hid hr1
        clear hr1
        by_cases hlt : j < G
        · have hr0 : ((r : Int) != 0) = true := by have := hr.out; have := hmod; rw [bne_iff_ne]; omega
          have hr0' : ((r : Int) == 0) = false := by have := hr.out; have := hmod; rw [beq_eq_false_iff_ne]; omega
          have hts1 : Hd (ts ++ [0] = ad ++ List.replicate (j + 1) 0) := hid (by rw [← hts.out, snoc_zeroR])
          have HJ := hid hlt
          clear hmod hlt
          go_wp2_with (first
            | (at_builtin; refine append_one rfl (.tmp 33) (.tmp 34) 24 rfl B 5 .u8 1 undBytes infoU8 _ ts rfl ho 0 rfl (by have := hlen.out; omega) (by have := hlen.out; omega) hBs ?_; intro v' w2 ho' hg'; rw [hts1.out] at ho')
            | fail)
          go_roundg (gk - 1)
          case measure => have := hq.out; omega
          case rel => have hx := hBx.out; exact ⟨j + 1, by have := HJ.out; omega, hid (by have := hq.out; omega), ho', hT.grown ho hg' hx.1 hx.2.1 hx.2.2.1 hx.2.2.2.1, hb10.grown hg' (fun he => ho.ne_lt hx.2.2.2.2 he.symm), Nat.le_trans hBs hg'.size⟩
        · have hjg : j = G := by omega
          have hr0 : ((r : Int) != 0) = false := by have := hr.out; have := hmod; rw [bne_eq_false_iff_eq]; omega
          have hr0' : ((r : Int) == 0) = true := by have := hr.out; have := hmod; rw [beq_iff_eq]; omega
          clear hmod hlt
          subst hjg
          have hM1 : Hd (padTo [] ad = ts) := hid (by rw [← hts.out, padTo, List.nil_append, ← HN.out, hGe.out])
          obtain ⟨M2, hM2⟩ : ∃ M2, Hd (ts ++ b = M2) := ⟨_, ⟨rfl⟩⟩
          go_wp2_with (first
            | (at_builtin; refine append_list rfl (.tmp 36) (.tmp 37) 24 rfl B 5 .u8 1 undBytes infoU8 _ ts rfl ho A' n' c' b rfl HN'.out hA' (HR'.out.below hT.bel) (by rw [← HN'.out]; have := hlen.out; omega) (by rw [← HN'.out]; have := hlen.out; omega) hBs ?_; intro v2 w2 ho2 hg2; rw [hM2.out] at ho2)
            | fail)
          have hx := hBx.out
          replace hT := hT.grown ho hg2 hx.1 hx.2.1 hx.2.2.1 hx.2.2.2.1
          replace hb10 := hb10.grown hg2 (fun he => ho.ne_lt hx.2.2.2.2 he.symm)
          replace hBs := Nat.le_trans hBs hg2.size
          obtain ⟨H, hHe⟩ : ∃ H, Hd (gap n' = H) := ⟨_, ⟨rfl⟩⟩
          have hHl : H < 16 := by rw [← hHe.out]; exact gap_ltR n'
          have hM2l : Hd (M2.length = ts.length + n') := hid (by rw [← hM2.out, List.length_append, ← HN'.out])
          have htm : Hd (ts.length % 16 = 0) := hid (by rw [← hM1.out]; exact padTo_modR [] ad rfl)
          have hGH : Hd (∀ j, j ≤ H → ((M2.length + j) % 16 = 0 ↔ j = H)) := hid (fun j hj => by
            have h1 := hHe.out
            have h2 := hM2l.out
            have h3 := htm.out
            unfold gap at h1
            omega)
          have hLH : Hd (M2.length ≤ 200030) := hid (by have := hM2l.out; have := hlen.out; omega)
          clear ho hM2l htm hlen hts
          have ho := ho2
          clear ho2 hg2
          go_loopg [12] (H + 1) (fun kq v12 wr => ∃ j : Nat, j ≤ H ∧ Hd (kq + j = H + 1) ∧ Own wr B 5 .u8 v12 (M2 ++ List.replicate j 0) ∧ TG w wr g4 g5 g8 key nonce ∧ Blk wr g10 27 (ints .u8 O) ∧ B ≤ wr.heap.size)
          case atStart => exact ⟨0, by omega, hid (by omega), by simpa using ho, hT, hb10, hBs⟩
          case round =>
            clear ho hT hb10 hBs
            obtain ⟨j, hj, hq, ho, hT, hb10, hBs⟩ := hrel
            obtain ⟨ts, hts⟩ : ∃ ts, Hd (M2 ++ List.replicate j 0 = ts) := ⟨_, ⟨rfl⟩⟩
            have hlen : Hd (ts.length ≤ 200050) := hid (by rw [← hts.out, List.length_append, List.length_replicate]; have := hLH.out; omega)
            rw [hts.out] at ho
            obtain ⟨A1, c1, hv, hc1, hA1, hr1⟩ := id ho.parts
            obtain ⟨L, hL⟩ : ∃ L, Hd (ts.length = L) := ⟨_, ⟨rfl⟩⟩
            rw [hL.out] at hv hc1
            have hmod : L % 16 = 0 ↔ j = H := by
              have e : L = (M2).length + j := by rw [← hL.out, ← hts.out, List.length_append, List.length_replicate]
              rw [e]; exact hGH.out j hj
            subst hv
            obtain ⟨r, hr⟩ : ∃ r : Nat, Hd (L % 16 = r) := ⟨_, ⟨rfl⟩⟩
            have h1 : (L : Int).tmod 16 = (r : Int) := by rw [Int.tmod_eq_emod_of_nonneg (by omega), ← hr.out]; omega
            have h1' : (L : Int) % 16 = (r : Int) := by rw [← hr.out]; omega
            have HR1 := hid hr1
            clear hr1
            by_cases hlt : j < H
            · have hr0 : ((r : Int) != 0) = true := by have := hr.out; have := hmod; rw [bne_iff_ne]; omega
              have hr0' : ((r : Int) == 0) = false := by have := hr.out; have := hmod; rw [beq_eq_false_iff_ne]; omega
              have hts1 : Hd (ts ++ [0] = M2 ++ List.replicate (j + 1) 0) := hid (by rw [← hts.out, snoc_zeroR])
              have HJ := hid hlt
              clear hmod hlt
              go_wp2_with (first
                | (at_builtin; refine append_one rfl (.tmp 43) (.tmp 44) 24 rfl B 5 .u8 1 undBytes infoU8 _ ts rfl ho 0 rfl (by have := hlen.out; omega) (by have := hlen.out; omega) hBs ?_; intro v' w2 ho' hg'; rw [hts1.out] at ho')
                | fail)
              go_roundg (gk - 1)
              case measure => have := hq.out; omega
              case rel => have hx := hBx.out; exact ⟨j + 1, by have := HJ.out; omega, hid (by have := hq.out; omega), ho', hT.grown ho hg' hx.1 hx.2.1 hx.2.2.1 hx.2.2.2.1, hb10.grown hg' (fun he => ho.ne_lt hx.2.2.2.2 he.symm), Nat.le_trans hBs hg'.size⟩
            · have hjg : j = H := by omega
              have hr0 : ((r : Int) != 0) = false := by have := hr.out; have := hmod; rw [bne_eq_false_iff_eq]; omega
              have hr0' : ((r : Int) == 0) = true := by have := hr.out; have := hmod; rw [beq_iff_eq]; omega
              clear hmod hlt
              subst hjg
              obtain ⟨M3, hM3⟩ : ∃ M3, Hd (padTo (padTo [] ad) b = M3) := ⟨_, ⟨rfl⟩⟩
              have hts3 : Hd (ts = M3) := hid (by rw [← hts.out, ← hM3.out, padTo, ← hM2.out, ← hM1.out, ← HN'.out, hHe.out])
              have hM3l : Hd (M3.length ≤ 200050) := hid (by rw [← hts3.out]; exact hlen.out)
              rw [hts3.out] at ho
              clear hts hts3 hL hM1 hM2
              go_wp2_with fail
              go_loopg [12, 13] 9 (fun kq v12 v13 wr => ∃ j : Nat, j ≤ 8 ∧ v13 = .int .i64 j ∧ Hd (kq + j = 9) ∧ Own wr B 5 .u8 v12 (M3 ++ lenTo n j) ∧ TG w wr g4 g5 g8 key nonce ∧ Blk wr g10 27 (ints .u8 O) ∧ B ≤ wr.heap.size)
              case atStart => exact ⟨0, by omega, rfl, hid (by omega), by simpa [lenTo] using ho, hT, hb10, hBs⟩
              case round =>
                clear ho hT hb10 hBs
                obtain ⟨j, hj, rfl, hq, ho, hT, hb10, hBs⟩ := hrel
                obtain ⟨ts, hts⟩ : ∃ ts, Hd (M3 ++ lenTo n j = ts) := ⟨_, ⟨rfl⟩⟩
                have hlen : Hd (ts.length ≤ 200060) := hid (by rw [← hts.out, List.length_append, lenTo_length]; have := hM3l.out; omega)
                rw [hts.out] at ho
                by_cases hlt : j < 8
                · have hts1 : Hd (ts ++ [(n : Int) / 2 ^ (8 * j) % 256] = M3 ++ lenTo n (j + 1)) := hid (by rw [← hts.out, lenTo_succ, ← List.append_assoc])
                  go_wp2_with (first
                    | (at_builtin; refine append_one rfl (.tmp 50) (.tmp 59) 24 rfl B 5 .u8 1 undBytes infoU8 _ ts rfl ho _ rfl (by have := hlen.out; omega) (by have := hlen.out; omega) hBs ?_; intro v' w2 ho' hg')
                    | fail)
                  rw [hts1.out] at ho'
                  go_roundg (gk - 1)
                  case measure => have := hq.out; omega
                  case rel => have hx := hBx.out; exact ⟨j + 1, by omega, by go_num, hid (by have := hq.out; omega), ho', hT.grown ho hg' hx.1 hx.2.1 hx.2.2.1 hx.2.2.2.1, hb10.grown hg' (fun he => ho.ne_lt hx.2.2.2.2 he.symm), Nat.le_trans hBs hg'.size⟩
                · obtain rfl : j = 8 := by omega
                  clear hlt hj hq
                  obtain ⟨M4, hM4⟩ : ∃ M4, Hd (M3 ++ lenTo n 8 = M4) := ⟨_, ⟨rfl⟩⟩
                  have hts4 : Hd (ts = M4) := hid (by rw [← hts.out, hM4.out])
                  have hM4l : Hd (M4.length ≤ 200060) := hid (by rw [← hts4.out]; exact hlen.out)
                  rw [hts4.out] at ho
                  clear hts hts4 hlen
                  go_wp2_with fail
                  go_loopg [12, 14] 9 (fun kq v12 v14 wr => ∃ j : Nat, j ≤ 8 ∧ v14 = .int .i64 j ∧ Hd (kq + j = 9) ∧ Own wr B 5 .u8 v12 (M4 ++ lenTo n' j) ∧ TG w wr g4 g5 g8 key nonce ∧ Blk wr g10 27 (ints .u8 O) ∧ B ≤ wr.heap.size)
                  case atStart => exact ⟨0, by omega, rfl, hid (by omega), by simpa [lenTo] using ho, hT, hb10, hBs⟩
                  case round =>
                    clear ho hT hb10 hBs
                    obtain ⟨j, hj, rfl, hq, ho, hT, hb10, hBs⟩ := hrel
                    obtain ⟨ts, hts⟩ : ∃ ts, Hd (M4 ++ lenTo n' j = ts) := ⟨_, ⟨rfl⟩⟩
                    have hlen : Hd (ts.length ≤ 200080) := hid (by rw [← hts.out, List.length_append, lenTo_length]; have := hM4l.out; omega)
                    rw [hts.out] at ho
                    by_cases hlt : j < 8
                    · have hts1 : Hd (ts ++ [(n' : Int) / 2 ^ (8 * j) % 256] = M4 ++ lenTo n' (j + 1)) := hid (by rw [← hts.out, lenTo_succ, ← List.append_assoc])
                      go_wp2_with (first
                        | (at_builtin; refine append_one rfl (.tmp 65) (.tmp 74) 24 rfl B 5 .u8 1 undBytes infoU8 _ ts rfl ho _ rfl (by have := hlen.out; omega) (by have := hlen.out; omega) hBs ?_; intro v' w2 ho' hg')
                        | fail)
                      rw [hts1.out] at ho'
                      go_roundg (gk - 1)
                      case measure => have := hq.out; omega
                      case rel => have hx := hBx.out; exact ⟨j + 1, by omega, by go_num, hid (by have := hq.out; omega), ho', hT.grown ho hg' hx.1 hx.2.1 hx.2.2.1 hx.2.2.2.1, hb10.grown hg' (fun he => ho.ne_lt hx.2.2.2.2 he.symm), Nat.le_trans hBs hg'.size⟩
                    · obtain rfl : j = 8 := by omega
                      clear hlt hj hq
                      have hM5 : Hd (ts = tagText ad b) := hid (by rw [← hts.out, ← hM4.out, ← hM3.out, tagText, HN.out, HN'.out])
                      clear hM4 hM3 hts
                      obtain ⟨A1, c1, hv, hc1, hA1, hr1⟩ := id ho.parts
                      have hML : Hd (ts.length ≤ 200080) := hid hlen.out
                      obtain ⟨L, hL⟩ : ∃ L, Hd (ts.length = L) := ⟨_, ⟨rfl⟩⟩
                      rw [hL.out] at hv hc1
                      subst hv
                      have rts : bytesOk ts := by rw [hM5.out]; exact rM
                      rw [← hM5.out] at hTG
                      have hOl2 : Hd (O.length = 32) := hid hOl.out
                      have rO : bytesOk O := by rw [← hO32.out]; exact bytesOk_take rS 32
                      go_wp2_with (first
                        | (refine load_blk rfl 27 _ rfl g10 rfl 27 _ hb10 32 5 arr23 (by simpa using hOl2.out) info23 ?_)
                        | (go_at_call 90; refine (tag1_calls O ts A1 L _ wr hOl2.out rO hL.out.symm hr1 rts (by have := hML.out; omega)).mono ?_
                           rintro e w3 ⟨he3, hB3⟩; rw [hTG.out] at he3; subst he3
                           replace hT := hT.below hB3)
                        | (refine store_blk rfl 125 _ _ rfl g8 (ints .u8 (tagOf key nonce ad b)) rfl rfl 125 _ hT.t 16 infoT16 (by simp [ints, tagOf_length]) (by simp) (ints_one _ _) ?_)
                        | fail)
                      refine bodyPost_ret (results_blk rfl _ _ g8 125 _ 16 5 rfl (hT.t.setRow _) undT16 (by simp [ints, tagOf_length]) infoT16) rfl ?_
                      exact ⟨rfl, below_setRow hT.bel (by have := hz.out; omega) _⟩
end Go.Proofs.YtlikinglgegclaaDoor
/- The reference's Seal. -/
namespace Go.Proofs.YtlikinglgegclaaDoor
open Go.RowKit Go.Cour
set_option maxHeartbeats 1000000 in
set_option maxRecDepth 100000 in
theorem seal1_calls (key nonce ad b : List Int) (A A' : Option Addr) (c c' n n' : Nat) (w : World) (hk : key.length = 32) (hnl : nonce.length = 12) (rk : bytesOk key) (rn : bytesOk nonce)
    (hn : n = ad.length) (hr : Rd w A .u8 ad) (ra : bytesOk ad) (hn' : n' = b.length) (hr' : Rd w A' .u8 b) (rb : bytesOk b) (hla : ad.length ≤ 100000) (hlb : b.length ≤ 100000) :
    Calls Tryd.prog 93 #[.agg (ints .u8 key).toArray, .agg (ints .u8 nonce).toArray, .slice A n c, .slice A' n' c'] w fun e w' => ∃ v, e = .returned v ∧ Own w' w.heap.size 5 .u8 v (sealText key nonce ad b) ∧ Below w.heap.size w w' := by
  have HK := hid hk
  have HNL := hid hnl
  have HN := hid hn
  have HR := hid hr
  have HN' := hid hn'
  have HR' := hid hr'
  clear hk hnl hn hr hn' hr'
  obtain ⟨X, hX⟩ : ∃ X, Hd (xorStream key 1 nonce b = X) := ⟨_, hid rfl⟩
  have hXl : Hd (X.length = n') := hid (by rw [← hX.out, xorStream_length, HN'.out])
  have rX : bytesOk X := by rw [← hX.out]; exact xorStream_ok key 1 nonce b rb
  obtain ⟨T, hT⟩ : ∃ T, Hd (tagOf key nonce ad X = T) := ⟨_, hid rfl⟩
  have hTl : Hd (T.length = 16) := hid (by rw [← hT.out]; exact tagOf_length _ _ _ _)
  have hXT : Hd (X ++ T = sealText key nonce ad b) := hid (by rw [sealText, hX.out, hT.out])
  have hlb' : n' ≤ 100000 := by rw [HN'.out]; exact hlb
  go_enter Tryd.func93, Tryd.ntmps93
  go_wp2_with (first
    | (refine box_blk rfl 27 _ rfl _ rfl (ints .u8 key) rfl ?_; intro g4 w1 hg4 hb4 hB1 hs1)
    | (refine box_blk rfl 91 _ rfl _ rfl (ints .u8 nonce) rfl ?_; intro g5 w2 hg5 hb5 hB2 hs2
       replace hb4 := hb4.belowAll hB2
       have hBa : Below w.heap.size w w2 := below_then hB1 hB1.size hB2
       clear hB1 hB2 hg4 hg5 hs1 hs2)
    | (refine load_blk rfl 27 _ rfl g4 rfl 27 _ hb4 32 5 arr23 (by simpa using HK.out) info23 ?_)
    | (refine load_blk rfl 91 _ rfl g5 rfl 91 _ hb5 12 5 arr24 (by simpa using HNL.out) info24 ?_)
    | (go_at_call 71; refine (xor1_calls key nonce b 1 A' n' c' w2 HN'.out HK.out HNL.out rk rn (by omega) (HR'.out.below hBa) (by omega)).mono ?_
       rintro e w3 ⟨v, rfl, ho, hB3⟩
       rw [hX.out] at ho
       replace hb4 := hb4.belowAll hB3
       replace hb5 := hb5.belowAll hB3
       have hBb : Below w.heap.size w w3 := below_then hBa hBa.size hB3
       obtain ⟨A1, c1, hv, hc1, hA1, hr1⟩ := id ho.parts
       rw [hXl.out] at hv hc1
       subst hv
       clear hB3)
    | (go_at_call 70; refine (tagged1_calls key nonce ad X A A1 c c1 n n' w3 HK.out HNL.out rk rn HN.out (HR.out.below hBb) ra hXl.out.symm hA1 hr1 rX hla (by rw [hXl.out]; exact hlb')).mono ?_
       rintro e w4 ⟨he4, hB4⟩
       rw [hT.out] at he4
       subst he4)
    | (refine alloc_blk rfl 125 rfl _ rfl (ints .u8 (List.replicate 16 0)) zeroT16 ?_; intro g10 w5 hg10 hb10 hB5 hs5)
    | (refine store_blk rfl 125 _ _ rfl g10 (ints .u8 T) rfl rfl 125 _ hb10 16 infoT16 (by simpa using hTl.out) (by simp) (ints_one _ _) ?_
       replace hb10 := hb10.setRow (ints .u8 T)
       have hBc : Below w3.heap.size w3 (w5.setRow g10 (ints .u8 T).toArray) := below_then hB4 hB4.size (below_setRow hB5 (by omega) _)
       clear hB4 hB5 hg10 hs5
       generalize w5.setRow g10 (ints .u8 T).toArray = w6 at *
       have ho2 := (ho.below hBc).lower hBa.size
       have hBd : Below w.heap.size w w6 := below_then hBb hBb.size hBc)
    | (at_builtin; refine append_list rfl (.tmp 20) (.tmp 21) 24 rfl w.heap.size 5 .u8 1 undBytes infoU8 _ X rfl ho2 (some ⟨g10, 0, none⟩) 16 16 T rfl hTl.out.symm (by intro h; cases h) (Rd.ofBlk hb10) (by rw [hXl.out, hTl.out]; omega) (by rw [hXl.out, hTl.out]; omega) hBd.size ?_; intro v1 w7 ho7 hg7)
    | fail)
  go_ret
  refine ⟨v1, by simp, ?_, ?_⟩
  · rw [← hXT.out]; exact ho7
  · exact ho2.grown_below hBd hg7 hBd.size (Nat.le_refl _)
end Go.Proofs.YtlikinglgegclaaDoor
/- courierref16's chunks: one, Count, Piece, nonce, Seal. -/
namespace Go.Proofs.YtlikinglgegclaaDoor
open Go.RowKit Go.Cour
attribute [local go_sem] max2_int min2_int
theorem one16_calls (q : Int) (w : World) : Calls Tryd.prog 92 #[.int .i64 q] w fun e w' => e = .returned (.int .i64 (max q 1)) ∧ w' = w := by
  obtain ⟨c, hc⟩ : ∃ c : Int, max q 1 = c := ⟨_, rfl⟩
  have m1 : (if q < 1 then (1 : Int) else q) = c := by split <;> omega
  rw [hc]
  clear hc
  go_enter Tryd.func92, Tryd.ntmps92
  go_wp2_with fail
  go_ret
  exact ⟨rfl, rfl⟩
set_option maxHeartbeats 400000 in
theorem count16_calls (p q : Int) (w : World) (hp : 0 ≤ p ∧ p ≤ 1000000) (hq : -1000000 ≤ q ∧ q ≤ 1000000) :
    Calls Tryd.prog 79 #[.int .i64 p, .int .i64 q] w fun e w' => e = .returned (.int .i64 (countI p q)) ∧ w' = w := by
  obtain ⟨c, hc⟩ : ∃ c : Int, Hd (max q 1 = c) := ⟨_, hid rfl⟩
  obtain ⟨d, hd⟩ : ∃ d : Int, p / c = d := ⟨_, rfl⟩
  obtain ⟨r, hr⟩ : ∃ r : Int, p % c = r := ⟨_, rfl⟩
  have c1 : 1 ≤ c := by have := hc.out; omega
  have c2 : c ≤ 1000000 := by have := hc.out; omega
  have d0 : 0 ≤ d := hd ▸ Int.ediv_nonneg hp.1 (by omega)
  have d1 : d ≤ p := hd ▸ Int.ediv_le_self _ hp.1
  have r0 : 0 ≤ r := hr ▸ Int.emod_nonneg p (by omega)
  have r1 : r < c := hr ▸ Int.emod_lt_of_pos p (by omega)
  have hdr : Hd (d * c + r = p) := hid (by rw [← hd, ← hr, Int.mul_comm]; exact Int.mul_ediv_add_emod p c)
  have t1 : p.tdiv c = d := by rw [Int.tdiv_eq_ediv_of_nonneg hp.1, hd]
  have t2 : p.tmod c = r := by rw [Int.tmod_eq_emod_of_nonneg hp.1, hr]
  have hco : Hd (countI p q = countD p d (d * c)) := hid (by rw [countI, hc.out, show max p 0 = p by omega, hd])
  have hcz : (c == 0) = false := by rw [beq_eq_false_iff_ne]; omega
  have p0 := hp.1
  have p1 := hp.2
  rw [hco.out]
  unfold countD
  by_cases hlt : 0 < r
  · rw [if_pos (by have := hdr.out; omega)]
    have m3 : max (d + 1) 1 = d + 1 := by omega
    rw [m3]
    go_enter Tryd.func79, Tryd.ntmps79
    go_wp2_with (first
      | (go_at_call 92; refine (one16_calls q _).mono ?_; rintro e w2 ⟨rfl, rfl⟩; rw [hc.out])
      | fail)
    go_ret
    exact ⟨rfl, rfl⟩
  · rw [if_neg (by have := hdr.out; omega)]
    by_cases h1 : 1 ≤ d
    · have m3 : max d 1 = d := by omega
      rw [m3]
      go_enter Tryd.func79, Tryd.ntmps79
      go_wp2_with (first
        | (go_at_call 92; refine (one16_calls q _).mono ?_; rintro e w2 ⟨rfl, rfl⟩; rw [hc.out])
        | fail)
      go_ret
      exact ⟨rfl, rfl⟩
    · have hd0 : d = 0 := by omega
      subst hd0
      rw [show max (0 : Int) 1 = 1 from rfl]
      go_enter Tryd.func79, Tryd.ntmps79
      go_wp2_with (first
        | (go_at_call 92; refine (one16_calls q _).mono ?_; rintro e w2 ⟨rfl, rfl⟩; rw [hc.out])
        | fail)
      go_ret
      exact ⟨rfl, rfl⟩
set_option maxHeartbeats 400000 in
set_option maxRecDepth 100000 in
theorem piece16_calls (xs : List Int) (A : Option Addr) (n cap : Nat) (q i : Int) (w : World) (hn : n = xs.length) (hcap : n ≤ cap) (hr : Rd w A .u8 xs) (hl : xs.length ≤ 100000)
    (hq : -1000000 ≤ q ∧ q ≤ 1000000) (hi : -1000000 ≤ i ∧ i ≤ 1000000) :
    Calls Tryd.prog 81 #[.slice A n cap, .int .i64 q, .int .i64 i] w fun e w' => ∃ v, e = .returned v ∧ Own w' w.heap.size 5 .u8 v (pieceOf xs q i) ∧ Below w.heap.size w w' := by
  have HN := hid hn
  have HR := hid hr
  rw [← hn] at hl
  clear hn hr
  obtain ⟨c, hc⟩ : ∃ c : Int, Hd (max q 1 = c) := ⟨_, hid rfl⟩
  have c1 : 1 ≤ c := by have := hc.out; omega
  have c2 : c ≤ 1000000 := by have := hc.out; omega
  obtain ⟨d, hd⟩ : ∃ d : Int, Hd ((n : Int) / c = d) := ⟨_, ⟨rfl⟩⟩
  have hpc : pieceOf xs q i = if i < 0 ∨ d < i then [] else (xs.drop (i * c).toNat).take c.toNat := by rw [pieceOf, hc.out, ← HN.out, hd.out]
  rw [hpc]
  clear hpc
  have w1 : ((n : Int)).tdiv c = d := by rw [Int.tdiv_eq_ediv_of_nonneg (by omega), hd.out]
  have w1' := hd.out
  have hcz : (c == 0) = false := by rw [beq_eq_false_iff_ne]; omega
  have hd0 : 0 ≤ d := by rw [← hd.out]; exact Int.ediv_nonneg (by omega) (by omega)
  have hdn : d ≤ n := by rw [← hd.out]; exact Int.ediv_le_self _ (by omega)
  by_cases h0 : i < 0
  · rw [if_pos (.inl h0)]
    go_enter Tryd.func81, Tryd.ntmps81
    go_wp2_with (first
      | (go_at_call 92; refine (one16_calls q _).mono ?_; rintro e w2 ⟨rfl, rfl⟩; rw [hc.out])
      | fail)
    go_ret
    exact ⟨_, rfl, Own.nil _ _ _ _, Below.refl _ _⟩
  · by_cases h1 : d < i
    · rw [if_pos (.inr h1)]
      go_enter Tryd.func81, Tryd.ntmps81
      go_wp2_with (first
        | (go_at_call 92; refine (one16_calls q _).mono ?_; rintro e w2 ⟨rfl, rfl⟩; rw [hc.out])
        | fail)
      go_ret
      exact ⟨_, rfl, Own.nil _ _ _ _, Below.refl _ _⟩
    · rw [if_neg (by omega)]
      obtain ⟨f, hf⟩ : ∃ f : Nat, Hd ((f : Int) = i * c) := ⟨(i * c).toNat, ⟨Int.toNat_of_nonneg (Int.mul_nonneg (by omega) (by omega))⟩⟩
      have hfn : f ≤ n := by
        have h3 : i * c ≤ d * c := Int.mul_le_mul_of_nonneg_right (by omega) (by omega)
        have h4 : d * c ≤ n := hd.out ▸ Int.ediv_mul_le _ (by omega)
        have h5 := hf.out
        generalize i * c = ic at *
        generalize d * c = dc at *
        omega
      have w2 : wrap64 (i * c) = (f : Int) := by rw [← hf.out]; exact IntWalk.wrap64_in _ (by omega)
      by_cases hfe : n ≤ f
      · have hfe2 : (n : Int) ≤ f := by omega
        have hp : (xs.drop (i * c).toNat).take c.toNat = [] := by rw [← hf.out, Int.toNat_natCast, List.drop_eq_nil_of_le (by rw [← HN.out]; exact hfe), List.take_nil]
        rw [hp]
        go_enter Tryd.func81, Tryd.ntmps81
        go_wp2_with (first
          | (go_at_call 92; refine (one16_calls q _).mono ?_; rintro e w2 ⟨rfl, rfl⟩; rw [hc.out])
          | fail)
        go_ret
        exact ⟨_, rfl, Own.nil _ _ _ _, Below.refl _ _⟩
      · have hfe2 : ¬ (n : Int) ≤ f := by omega
        obtain ⟨k, hk⟩ : ∃ k : Nat, Hd (k = min c.toNat (n - f)) := ⟨_, ⟨rfl⟩⟩
        have hkn : f + k ≤ n := by have := hk.out; omega
        have hp : Hd ((xs.drop (i * c).toNat).take c.toNat = (xs.drop f).take k) := ⟨by
          rw [← hf.out, Int.toNat_natCast, hk.out]
          rcases Nat.le_total c.toNat (n - f) with h | h
          · rw [Nat.min_eq_left h]
          · rw [Nat.min_eq_right h, List.take_of_length_le (by rw [List.length_drop, ← HN.out]; exact h), List.take_of_length_le (by rw [List.length_drop, ← HN.out]; exact Nat.le_refl _)]⟩
        rw [hp.out]
        have m2 := min_k1 n f k c c1 hk.out hfn
        have m3 := min_k2 n f k c c1 hk.out hfn
        have hlen : Hd (k = ((xs.drop f).take k).length) := ⟨by rw [List.length_take, List.length_drop, ← HN.out]; omega⟩
        have hcf : ¬ cap = f := by omega
        go_enter Tryd.func81, Tryd.ntmps81
        go_wp2_with (first
          | (go_at_call 92; refine (one16_calls q _).mono ?_; rintro e w2 ⟨rfl, rfl⟩; rw [hc.out])
          | (go_at_call 23; refine (bytes_calls ((xs.drop f).take k) _ _ _ _ hlen.out ((rd_sliceC HR.out f).take k) (by omega)).mono ?_; rintro e w' ⟨v, rfl, ho, hb⟩)
          | fail)
        go_ret
        exact ⟨_, rfl, ho, hb⟩
set_option maxHeartbeats 400000 in
set_option maxRecDepth 100000 in
theorem nonce16_calls (i : Int) (last : Bool) (w : World) (hi : 0 ≤ i ∧ i < 4294967296) :
    Calls Tryd.prog 42 #[.int .u32 i, .bool last] w fun e w' => e = .returned (.agg (ints .u8 (nonceOf i last)).toArray) ∧ Below w.heap.size w w' := by
  cases last
  · go_enter Tryd.func42, Tryd.ntmps42
    go_wp2_with (first
    | (refine store_blk rfl 91 _ _ rfl g1 (ints .u8 [0, 0, 0, 0, 0, 0, 0, i / 16777216, i / 65536 % 256, i / 256 % 256, i % 256, 0]) rfl rfl 91 _ hb1'' 12 infoN12 (by simp [ints]) (by simp [ints]) (ints_one _ _) ?_)
    | (refine load_blk rfl 91 _ rfl g2 rfl 91 _ hb4 12 5 undN12 (by simp [ints]) infoN12 ?_)
    | (refine store_blk rfl 91 _ _ rfl g2 (ints .u8 [0, 0, 0, 0, 0, 0, 0, i / 16777216, i / 65536 % 256, i / 256 % 256, i % 256, 0]) rfl rfl 91 _ hb2 12 infoN12 (by simp [ints]) (by simp [ints]) (ints_one _ _) ?_
       have hb3 := hb2.setRow (ints .u8 [0, 0, 0, 0, 0, 0, 0, i / 16777216, i / 65536 % 256, i / 256 % 256, i % 256, 0])
       have hb1' := (hb1.belowAll hB2).setRowOther (g' := g2) (by have := hb1.lt; omega) (ints .u8 [0, 0, 0, 0, 0, 0, 0, i / 16777216, i / 65536 % 256, i / 256 % 256, i % 256, 0]).toArray
       have hB3 := below_setRow (below_then hB1 hB1.size hB2) (g := g2) (by have := hB1.size; omega) (ints .u8 [0, 0, 0, 0, 0, 0, 0, i / 16777216, i / 65536 % 256, i / 256 % 256, i % 256, 0]).toArray
       generalize World.setRow w2 _ _ = w3 at *
       have hb4 := hb3
       have hb1'' := hb1'
       have hB4 := hB3)
    | (have hx := hb1; refine alloc_blk rfl 91 rfl _ rfl (ints .u8 (List.replicate 12 0)) zeroN12 ?_; clear hx; intro g2 w2 hg2 hb2 hB2 hs2)
    | (refine alloc_blk rfl 91 rfl _ rfl (ints .u8 (List.replicate 12 0)) zeroN12 ?_; intro g1 w1 hg1 hb1 hB1 hs1)
    | fail)
    refine bodyPost_ret (results_blk rfl _ _ g1 91 _ 12 5 rfl (hb1''.setRow (ints .u8 [0, 0, 0, 0, 0, 0, 0, i / 16777216, i / 65536 % 256, i / 256 % 256, i % 256, 0])) undN12 (by simp [ints]) infoN12) rfl ?_
    exact ⟨rfl, below_setRow hB4 (by omega) _⟩
  · go_enter Tryd.func42, Tryd.ntmps42
    go_wp2_with (first
    | (refine store_blk rfl 91 _ _ rfl g1 (ints .u8 [0, 0, 0, 0, 0, 0, 0, i / 16777216, i / 65536 % 256, i / 256 % 256, i % 256, 1]) rfl rfl 91 _ hb1'' 12 infoN12 (by simp [ints]) (by simp [ints]) (ints_one _ _) ?_)
    | (refine load_blk rfl 91 _ rfl g2 rfl 91 _ hb4 12 5 undN12 (by simp [ints]) infoN12 ?_)
    | (refine store_blk rfl 91 _ _ rfl g2 (ints .u8 [0, 0, 0, 0, 0, 0, 0, i / 16777216, i / 65536 % 256, i / 256 % 256, i % 256, 0]) rfl rfl 91 _ hb2 12 infoN12 (by simp [ints]) (by simp [ints]) (ints_one _ _) ?_
       have hb3 := hb2.setRow (ints .u8 [0, 0, 0, 0, 0, 0, 0, i / 16777216, i / 65536 % 256, i / 256 % 256, i % 256, 0])
       have hb1' := (hb1.belowAll hB2).setRowOther (g' := g2) (by have := hb1.lt; omega) (ints .u8 [0, 0, 0, 0, 0, 0, 0, i / 16777216, i / 65536 % 256, i / 256 % 256, i % 256, 0]).toArray
       have hB3 := below_setRow (below_then hB1 hB1.size hB2) (g := g2) (by have := hB1.size; omega) (ints .u8 [0, 0, 0, 0, 0, 0, 0, i / 16777216, i / 65536 % 256, i / 256 % 256, i % 256, 0]).toArray
       generalize World.setRow w2 _ _ = w3 at *
       have fx := hb3.frozen 11
       have cx := hb3.cellI 11 (by simp)
       have hb4 : Blk (w3.setCell ⟨g2, 11, none⟩ (.int .u8 1)) g2 91 (ints .u8 [0, 0, 0, 0, 0, 0, 0, i / 16777216, i / 65536 % 256, i / 256 % 256, i % 256, 1]) := hb3.setI 11 1
       have hb1'' : Blk (w3.setCell ⟨g2, 11, none⟩ (.int .u8 1)) g1 91 (ints .u8 (List.replicate 12 0)) := hb1'.setOther (by have := hb1.lt; simp; omega) _
       have hB4 : Below w.heap.size w (w3.setCell ⟨g2, 11, none⟩ (.int .u8 1)) := hB3.setCell (by have := hB1.size; simp; omega) _)
    | (have hx := hb1; refine alloc_blk rfl 91 rfl _ rfl (ints .u8 (List.replicate 12 0)) zeroN12 ?_; clear hx; intro g2 w2 hg2 hb2 hB2 hs2)
    | (refine alloc_blk rfl 91 rfl _ rfl (ints .u8 (List.replicate 12 0)) zeroN12 ?_; intro g1 w1 hg1 hb1 hB1 hs1)
    | fail)
    refine bodyPost_ret (results_blk rfl _ _ g1 91 _ 12 5 rfl (hb1''.setRow (ints .u8 [0, 0, 0, 0, 0, 0, 0, i / 16777216, i / 65536 % 256, i / 256 % 256, i % 256, 1])) undN12 (by simp [ints]) infoN12) rfl ?_
    exact ⟨rfl, below_setRow hB4 (by omega) _⟩
set_option maxHeartbeats 400000 in
set_option maxRecDepth 100000 in
theorem sseal16_calls (key : List Int) (i : Int) (last : Bool) (b : List Int) (A : Option Addr) (n c : Nat) (w : World) (hk : key.length = 32) (rk : bytesOk key) (hi : 0 ≤ i ∧ i < 4294967296)
    (hn : n = b.length) (hr : Rd w A .u8 b) (rb : bytesOk b) (hlb : b.length ≤ 100000) :
    Calls Tryd.prog 80 #[.agg (ints .u8 key).toArray, .int .u32 i, .bool last, .slice A n c] w fun e w' => ∃ v, e = .returned v ∧ Own w' w.heap.size 5 .u8 v (ssealText key i last b) ∧ Below w.heap.size w w' := by
  subst hn
  go_enter Tryd.func80, Tryd.ntmps80
  go_wp2_with (first
    | (refine box_blk rfl 27 _ rfl _ rfl (ints .u8 key) rfl ?_; intro g4 w1 hg4 hb4 hB1 hs1; clear hg4 hs1)
    | fail)
  refine wp_region_facts (ix := [[0], [1], [2], [3], [4], [5], [6]]) (S := fun w' => Blk w' g4 27 (ints .u8 key) ∧ Below w.heap.size w w')
    (R := fun w1 w2 => Below w1.heap.size w1 w2)
    (p := fun j vs w' => match j with
      | 0 => vs 0 = .agg (ints .u8 key).toArray
      | 1 => vs 1 = .int .u32 i
      | 2 => vs 2 = .bool last
      | 3 => vs 3 = .agg (ints .u8 (nonceOf i last)).toArray
      | 4 => vs 4 = .slice A b.length c
      | 5 => Own w' w.heap.size 5 .u8 (vs 5) (ssealText key i last b)
      | 6 => Own w' w.heap.size 5 .u8 (vs 6) (ssealText key i last b)
      | _ => True)
    (by kernel_rfl) (by kernel_rfl) ?_ ?_ ?_ ?_
  · exact ⟨hb4.drew, below_drewN hB1 1⟩
  · intro j vs w1 w2 hR h
    match j with
    | 0 | 1 | 2 | 3 | 4 => exact h
    | 5 => exact Own.below h hR
    | 6 => exact Own.below h hR
    | n + 7 => trivial
  · refine ⟨?_, ?_, ?_, ?_, ?_, ?_, ?_, trivial⟩
    · (intro vs w2 hS hd; simp [Region.binds, Fact.at] at hd; simp only [fill, List.take_succ_cons, List.take_zero, Act.put, List.setIfInBounds_toArray, List.set_cons_zero, List.set_cons_succ, Nat.reduceAdd])
      try simp only [hd]
      go_wp2_with (first
        | (refine load_blk rfl 27 _ rfl g4 rfl 27 _ hS.1 32 5 arr23 (by simp [ints, hk]) info23 ?_)
        | fail)
      exact ⟨rfl, rfl, hS, Below.refl _ _⟩
    · (intro vs w2 hS hd; simp [Region.binds, Fact.at] at hd; simp only [fill, List.take_succ_cons, List.take_zero, Act.put, List.setIfInBounds_toArray, List.set_cons_zero, List.set_cons_succ, Nat.reduceAdd])
      try simp only [hd]
      go_wp2_with fail
      exact ⟨rfl, rfl, hS, Below.refl _ _⟩
    · (intro vs w2 hS hd; simp [Region.binds, Fact.at] at hd; simp only [fill, List.take_succ_cons, List.take_zero, Act.put, List.setIfInBounds_toArray, List.set_cons_zero, List.set_cons_succ, Nat.reduceAdd])
      try simp only [hd]
      go_wp2_with fail
      exact ⟨rfl, rfl, hS, Below.refl _ _⟩
    · (intro vs w2 hS hd; simp [Region.binds, Fact.at] at hd; simp only [fill, List.take_succ_cons, List.take_zero, Act.put, List.setIfInBounds_toArray, List.set_cons_zero, List.set_cons_succ, Nat.reduceAdd])
      simp only [hd]
      go_wp2_with (first
        | (go_at_call 42; refine (nonce16_calls i last w2 hi).mono ?_; rintro e w3 ⟨rfl, hB⟩)
        | fail)
      exact ⟨rfl, rfl, ⟨hS.1.belowAll hB, below_then hS.2 hS.2.size hB⟩, hB⟩
    · (intro vs w2 hS hd; simp [Region.binds, Fact.at] at hd; simp only [fill, List.take_succ_cons, List.take_zero, Act.put, List.setIfInBounds_toArray, List.set_cons_zero, List.set_cons_succ, Nat.reduceAdd])
      try simp only [hd]
      go_wp2_with fail
      exact ⟨rfl, rfl, hS, Below.refl _ _⟩
    · (intro vs w2 hS hd; simp [Region.binds, Fact.at] at hd; simp only [fill, List.take_succ_cons, List.take_zero, Act.put, List.setIfInBounds_toArray, List.set_cons_zero, List.set_cons_succ, Nat.reduceAdd])
      simp only [hd]
      go_wp2_with (first
        | (go_at_call 93; refine (seal1_calls key (nonceOf i last) [] b none A 0 c 0 b.length w2 hk (nonceOf_length _ _) rk (nonceOf_ok i last hi) rfl (Rd.nil _ _ _) (fun j => by simp [rd]) rfl (hr.below hS.2) rb (by simp) hlb).mono ?_; rintro e w3 ⟨v, rfl, ho, hB⟩)
        | fail)
      exact ⟨rfl, ho.lower hS.2.size, ⟨hS.1.belowAll hB, below_then hS.2 hS.2.size hB⟩, hB⟩
    · (intro vs w2 hS hd; simp [Region.binds, Fact.at] at hd; simp only [fill, List.take_succ_cons, List.take_zero, Act.put, List.setIfInBounds_toArray, List.set_cons_zero, List.set_cons_succ, Nat.reduceAdd])
      go_wp2_with fail
      exact ⟨rfl, hd.1, hS, Below.refl _ _⟩
  · intro vs wq hf hS
    have h6 : Own wq w.heap.size 5 .u8 (vs 6) (ssealText key i last b) := hf 6 (by simp)
    simp only [fill, Act.put, List.setIfInBounds_toArray, List.set_cons_zero, List.set_cons_succ, Nat.reduceAdd]
    clear hf
    go_wp2_with fail
    go_ret
    exact ⟨_, rfl, h6, hS.2⟩
end Go.Proofs.YtlikinglgegclaaDoor
/- courierref16.All. -/
namespace Go.Proofs.YtlikinglgegclaaDoor
open Go.RowKit Go.Cour
theorem bytesOk_piece {xs : List Int} {q i : Int} (h : bytesOk xs) : bytesOk (pieceOf xs q i) := by
  unfold pieceOf
  split
  · exact fun j => by simp [rd]
  · exact bytesOk_take (bytesOk_drop h _) _
set_option maxHeartbeats 800000 in
set_option maxRecDepth 100000 in
theorem all16_calls (key xs : List Int) (q : Int) (A : Option Addr) (m c : Nat) (w : World) (hk : key.length = 32) (rk : bytesOk key)
    (rx : bytesOk xs) (hm : m = xs.length) (hA : A = none → c = 0) (hc : m ≤ c) (hr : Rd w A .u8 xs) (hl : xs.length ≤ 100000) (hq : -1000000 ≤ q ∧ q ≤ 1000000) :
    Calls Tryd.prog 57 #[.agg (ints .u8 key).toArray, .slice A m c, .int .i64 q] w fun e w' => ∃ v, e = .returned v ∧ OwnL w' w.heap.size 24 5 .u8 v (allTexts key xs q) ∧ Below w.heap.size w w' := by
  subst hm
  obtain ⟨N, hN⟩ : ∃ N : Nat, Hd (countI xs.length q = (N : Int)) := ⟨(countI xs.length q).toNat, ⟨by have := (countI_bounds xs.length q).1; omega⟩⟩
  have hNb : 1 ≤ N ∧ N ≤ 100000 := by have := countI_bounds xs.length q; have := hN.out; omega
  have hAll : Hd (allTexts key xs q = allTo key xs q N N) := ⟨by rw [allTexts, hN.out]; rfl⟩
  obtain ⟨zs, hzs⟩ : ∃ zs : List Int, Hd (zs = xs) := ⟨xs, ⟨rfl⟩⟩
  go_enter Tryd.func57, Tryd.ntmps57
  go_wp2_with (first
    | (refine box_blk rfl 27 _ rfl _ rfl (ints .u8 key) rfl ?_; intro g4 w1 hg4 hb4 hB1 hs1; clear hg4 hs1)
    | (go_at_call 79; refine (count16_calls _ _ _ (by omega) hq).mono ?_; rintro e w2 ⟨rfl, rfl⟩; rw [hN.out])
    | fail)
  go_loopg [7, 9] N (fun kq v8 v15 wr => ∃ i : Nat, i ≤ N ∧ v15 = .int .i64 i ∧ Hd (kq + i = N) ∧ OwnL wr w.heap.size 24 5 .u8 v8 (allTo key xs q N i) ∧ Blk wr g4 27 (ints .u8 key) ∧ Below w.heap.size w wr)
  case atStart => exact ⟨0, by omega, rfl, hid (by omega), OwnL.nil _ _ _ _ _, hb4, hB1⟩
  case round =>
    clear hb4 hB1
    obtain ⟨i, hi, rfl, hgq, ho, hb4, hB⟩ := hrel
    by_cases hlt : i < N
    · have hlt' : (i : Int) < N := by omega
      obtain ⟨L, hL⟩ : ∃ L, ((i : Int) == (N : Int) - 1) = L := ⟨_, rfl⟩
      have HL := hid hL
      obtain ⟨TX, hTX⟩ : ∃ TX, Hd (ssealText key i L (pieceOf xs q i) = TX) := ⟨_, ⟨rfl⟩⟩
      go_wp2_with fail
      refine wp_region_factsU (ix := [[0], [1], [2], [3], [4], [5], [6], [7], [8], [9], [10], [11], [12], [13], [14], [15]]) (S := fun w' => Blk w' g4 27 (ints .u8 key) ∧ Below w.heap.size w w')
        (R := fun iO w1 w2 => if iO = 14 then w1.grownBy w2 u7.ownBlock else (Below w1.heap.size w1 w2))
        (U := fun iO w1 => match iO with
          | 14 => OwnL w1 w.heap.size 24 5 .u8 u7 (allTo key xs q N i)
          | _ => True)
        (kill := fun jO => match jO with
          | 11 => some 14
          | 12 => some 14
          | 13 => some 14
          | _ => none)
        (p := fun jO vs w' => match jO with
          | 0 => vs 0 = u7
          | 1 => vs 1 = .agg (ints .u8 key).toArray
          | 2 => vs 2 = .int .i64 i
          | 3 => vs 3 = .int .u32 i
          | 4 => vs 4 = .int .i64 i
          | 5 => vs 5 = .int .i64 N
          | 6 => vs 6 = .int .i64 ((N : Int) - 1)
          | 7 => vs 7 = .bool L
          | 8 => vs 8 = .slice A xs.length c
          | 9 => vs 9 = .int .i64 q
          | 10 => vs 10 = .int .i64 i
          | 11 => Own w' w.heap.size 5 .u8 (vs 11) (pieceOf xs q i)
          | 12 => Own w' w.heap.size 5 .u8 (vs 12) TX
          | 13 => ∃ g, vs 13 = .slice (some ⟨g, 0, none⟩) 1 1 ∧ ∃ u, Blk w' g 24 [u] ∧ Own w' w.heap.size 5 .u8 u TX
          | 14 => OwnL w' w.heap.size 24 5 .u8 (vs 14) (allTo key xs q N (i + 1))
          | 15 => OwnL w' w.heap.size 24 5 .u8 (vs 15) (allTo key xs q N (i + 1))
          | _ => True)
        (ks := [(11, 12), (12, 13)])
        (hm := by kernel_rfl) (hc := by kernel_rfl) ?_ ?_ ?_ ?_ ?_ ?_
      · exact ⟨hb4.drew, below_drewN hB 1⟩
      · intro iO jO vs w1 w2 hij hw hkl hR h
        have hB : iO ≠ 14 → Below w1.heap.size w1 w2 := fun h14 => by rw [if_neg h14] at hR; exact hR
        match jO with
        | 0 | 1 | 2 | 3 | 4 | 5 | 6 | 7 | 8 | 9 | 10 => exact h
        | 11 => exact Own.below h (hB (by rintro rfl; exact hkl rfl))
        | 12 => exact Own.below h (hB (by rintro rfl; exact hkl rfl))
        | 13 => obtain ⟨g, h1, u, h2, h3⟩ := h; exact ⟨g, h1, u, h2.belowAll (hB (by rintro rfl; exact hkl rfl)), h3.below (hB (by rintro rfl; exact hkl rfl))⟩
        | 14 => exact OwnL.below h (hB (by rintro rfl; exact hij rfl))
        | 15 => exact OwnL.below h (hB (by rintro rfl; exact absurd (Eq.trans (by kernel_rfl : true = _) hw) (by decide)))
        | nO + 16 => trivial
      · intro jO
        match jO with
        | 14 => exact ho.drew
        | 0 | 1 | 2 | 3 | 4 | 5 | 6 | 7 | 8 | 9 | 10 | 11 | 12 | 13 | 15 | nO + 16 => trivial
      · intro iO jO w1 w2 hij hw hR h
        have hB : iO ≠ 14 → Below w1.heap.size w1 w2 := fun h14 => by rw [if_neg h14] at hR; exact hR
        match jO with
        | 14 => exact OwnL.below h (hB (fun he => hij he))
        | 0 | 1 | 2 | 3 | 4 | 5 | 6 | 7 | 8 | 9 | 10 | 11 | 12 | 13 | 15 | nO + 16 => trivial
      · refine ⟨?_, ?_, ?_, ?_, ?_, ?_, ?_, ?_, ?_, ?_, ?_, ?_, ?_, ?_, ?_, ?_, trivial⟩
        · (intro vs w2 hS hU hd; simp [Region.binds, Fact.at] at hd; simp only [fill, List.take_succ_cons, List.take_zero, Act.put, List.setIfInBounds_toArray, List.set_cons_zero, List.set_cons_succ, Nat.reduceAdd])
          try simp only [hd]
          go_wp2_with fail
          exact ⟨rfl, rfl, hS, Below.refl _ _⟩
        · (intro vs w2 hS hU hd; simp [Region.binds, Fact.at] at hd; simp only [fill, List.take_succ_cons, List.take_zero, Act.put, List.setIfInBounds_toArray, List.set_cons_zero, List.set_cons_succ, Nat.reduceAdd])
          try simp only [hd]
          go_wp2_with (first
            | (refine load_blk rfl 27 _ rfl g4 rfl 27 _ hS.1 32 5 arr23 (by simp [ints, hk]) info23 ?_)
            | fail)
          exact ⟨rfl, rfl, hS, Below.refl _ _⟩
        · (intro vs w2 hS hU hd; simp [Region.binds, Fact.at] at hd; simp only [fill, List.take_succ_cons, List.take_zero, Act.put, List.setIfInBounds_toArray, List.set_cons_zero, List.set_cons_succ, Nat.reduceAdd])
          try simp only [hd]
          go_wp2_with fail
          exact ⟨rfl, rfl, hS, Below.refl _ _⟩
        · (intro vs w2 hS hU hd; simp [Region.binds, Fact.at] at hd; simp only [fill, List.take_succ_cons, List.take_zero, Act.put, List.setIfInBounds_toArray, List.set_cons_zero, List.set_cons_succ, Nat.reduceAdd])
          simp only [hd]
          go_wp2_with fail
          exact ⟨rfl, rfl, hS, Below.refl _ _⟩
        · (intro vs w2 hS hU hd; simp [Region.binds, Fact.at] at hd; simp only [fill, List.take_succ_cons, List.take_zero, Act.put, List.setIfInBounds_toArray, List.set_cons_zero, List.set_cons_succ, Nat.reduceAdd])
          try simp only [hd]
          go_wp2_with fail
          exact ⟨rfl, rfl, hS, Below.refl _ _⟩
        · (intro vs w2 hS hU hd; simp [Region.binds, Fact.at] at hd; simp only [fill, List.take_succ_cons, List.take_zero, Act.put, List.setIfInBounds_toArray, List.set_cons_zero, List.set_cons_succ, Nat.reduceAdd])
          try simp only [hd]
          go_wp2_with fail
          exact ⟨rfl, rfl, hS, Below.refl _ _⟩
        · (intro vs w2 hS hU hd; simp [Region.binds, Fact.at] at hd; simp only [fill, List.take_succ_cons, List.take_zero, Act.put, List.setIfInBounds_toArray, List.set_cons_zero, List.set_cons_succ, Nat.reduceAdd])
          simp only [hd]
          go_wp2_with fail
          exact ⟨rfl, rfl, hS, Below.refl _ _⟩
        · (intro vs w2 hS hU hd; simp [Region.binds, Fact.at] at hd; simp only [fill, List.take_succ_cons, List.take_zero, Act.put, List.setIfInBounds_toArray, List.set_cons_zero, List.set_cons_succ, Nat.reduceAdd])
          simp only [hd]
          go_wp2_with fail
          exact ⟨rfl, rfl, hS, Below.refl _ _⟩
        · (intro vs w2 hS hU hd; simp [Region.binds, Fact.at] at hd; simp only [fill, List.take_succ_cons, List.take_zero, Act.put, List.setIfInBounds_toArray, List.set_cons_zero, List.set_cons_succ, Nat.reduceAdd])
          try simp only [hd]
          go_wp2_with fail
          exact ⟨rfl, rfl, hS, Below.refl _ _⟩
        · (intro vs w2 hS hU hd; simp [Region.binds, Fact.at] at hd; simp only [fill, List.take_succ_cons, List.take_zero, Act.put, List.setIfInBounds_toArray, List.set_cons_zero, List.set_cons_succ, Nat.reduceAdd])
          try simp only [hd]
          go_wp2_with fail
          exact ⟨rfl, rfl, hS, Below.refl _ _⟩
        · (intro vs w2 hS hU hd; simp [Region.binds, Fact.at] at hd; simp only [fill, List.take_succ_cons, List.take_zero, Act.put, List.setIfInBounds_toArray, List.set_cons_zero, List.set_cons_succ, Nat.reduceAdd])
          try simp only [hd]
          go_wp2_with fail
          exact ⟨rfl, rfl, hS, Below.refl _ _⟩
        · (intro vs w2 hS hU hd; simp [Region.binds, Fact.at] at hd; simp only [fill, List.take_succ_cons, List.take_zero, Act.put, List.setIfInBounds_toArray, List.set_cons_zero, List.set_cons_succ, Nat.reduceAdd])
          simp only [hd]
          go_wp2_with (first
            | (go_at_call 81; refine (piece16_calls xs A _ c q i w2 rfl hc (hr.below hS.2) hl hq (by omega)).mono ?_; rintro e w3 ⟨v, rfl, ho9, hB9⟩)
            | fail)
          exact ⟨rfl, ho9.lower hS.2.size, ⟨hS.1.belowAll hB9, below_then hS.2 hS.2.size hB9⟩, hB9⟩
        · (intro vs w2 hS hU hd; simp [Region.binds, Fact.at] at hd; simp only [fill, List.take_succ_cons, List.take_zero, Act.put, List.setIfInBounds_toArray, List.set_cons_zero, List.set_cons_succ, Nat.reduceAdd])
          obtain ⟨h1, h3, h7, h11⟩ := hd
          have hpl := Nat.le_trans (pieceOf_le xs q i) hl
          obtain ⟨ps, hps⟩ : ∃ ps, Hd (ps = pieceOf xs q i) := ⟨_, ⟨rfl⟩⟩
          rw [← hps.out] at h11 hpl
          have rps : bytesOk ps := by rw [hps.out]; exact bytesOk_piece rx
          obtain ⟨A1, c1, hv1, hc1, hA1, hr1⟩ := h11.parts
          simp only [h1, h3, h7, hv1]
          go_wp2_with (first
            | (go_at_call 80; refine (sseal16_calls key i L ps A1 _ c1 w2 hk rk (by omega) rfl hr1 rps hpl).mono ?_; rintro e w3 ⟨v, rfl, ho9, hB9⟩; rw [hps.out, hTX.out] at ho9)
            | fail)
          exact ⟨rfl, ho9.lower hS.2.size, ⟨hS.1.belowAll hB9, below_then hS.2 hS.2.size hB9⟩, hB9⟩
        · (intro vs w2 hS hU hd; simp [Region.binds, Fact.at] at hd; simp only [fill, List.take_succ_cons, List.take_zero, Act.put, List.setIfInBounds_toArray, List.set_cons_zero, List.set_cons_succ, Nat.reduceAdd])
          obtain ⟨A1, c1, hv1, hc1, hA1, hr1⟩ := hd.parts
          go_wp2_with (first
            | (refine literal_one rfl 83 24 _ rfl (vs 12) rfl (by rw [hv1]; rfl) undLL sizeBytes zeroBytes ?_; intro g w3 hg9 hb9 hB9 hs9)
            | fail)
          exact ⟨rfl, ⟨g, rfl, vs 12, hb9, hd.below hB9⟩, ⟨hS.1.belowAll hB9, below_then hS.2 hS.2.size hB9⟩, hB9⟩
        · (intro vs w2 hS hU hd; simp [Region.binds, Fact.at] at hd; simp only [fill, List.take_succ_cons, List.take_zero, Act.put, List.setIfInBounds_toArray, List.set_cons_zero, List.set_cons_succ, Nat.reduceAdd])
          obtain ⟨h0, ⟨g, h1, u, h2, h3⟩, _⟩ := hd
          have hU' : OwnL w2 w.heap.size 24 5 .u8 u7 (allTo key xs q N i) := hU
          simp only [h0, h1]
          go_wp2_with (first
            | (at_builtin; refine append_row rfl (.tmp 19) (.tmp 32) 83 rfl w.heap.size 24 5 .u8 24 undLL infoLL (by decide) u7 (allTo key xs q N i) rfl hU' g u TX rfl h2 h3 (by rw [allTo_length]; omega) (by rw [allTo_length]; omega) hS.2.size ?_; intro v9 w3 ho9 hg9; rw [← hTX.out, ← HL.out, ← allTo_succ] at ho9)
            | fail)
          obtain ⟨cs9, hv9, _⟩ := id hU'
          exact ⟨rfl, ho9, ⟨hS.1.grown hg9 (hv9.ne_blk hS.1 (by decide)), hU'.grown_below hS.2 hg9 hS.2.size (Nat.le_refl _)⟩, hg9⟩
        · (intro vs w2 hS hU hd; simp [Region.binds, Fact.at] at hd; simp only [fill, List.take_succ_cons, List.take_zero, Act.put, List.setIfInBounds_toArray, List.set_cons_zero, List.set_cons_succ, Nat.reduceAdd])
          go_wp2_with fail
          exact ⟨rfl, hd.1, hS, Below.refl _ _⟩
      · intro vs wq hf hS
        have h15 : OwnL wq w.heap.size 24 5 .u8 (vs 15) (allTo key xs q N (i + 1)) := hf 15 (by simp) rfl
        simp only [fill, Act.put, List.setIfInBounds_toArray, List.set_cons_zero, List.set_cons_succ, Nat.reduceAdd]
        clear hf hL
        go_wp2_with fail
        go_roundg (gk - 1)
        case measure => have := hgq.out; omega
        case rel => exact ⟨i + 1, by omega, by go_num, hid (by have := hgq.out; omega), h15, hS.1, hS.2⟩
    · obtain rfl : i = N := by omega
      have hlt' : ¬ ((i : Int) < i) := by omega
      go_wp2_with fail
      go_ret
      refine ⟨_, rfl, ?_, hB⟩
      rw [hAll.out]
      exact ho
end Go.Proofs.YtlikinglgegclaaDoor
/- Texts, listed in memory: read. -/
namespace Go.Proofs.YtlikinglgegclaaDoor
open Go.RowKit Go.Cour
/-- Texts, listed. -/
def PRd (w : World) (A : Option Addr) (xss : List (List Int)) : Prop := xss = [] ∨ ∃ g o, A = some ⟨g, o, none⟩ ∧ ∀ (i : Nat) (X : List Int), xss[i]? = some X → ∃ Ai ci, w.cell? ⟨g, o + i, none⟩ = some (.slice Ai X.length ci) ∧ Rd w Ai .u8 X
theorem PRd.below {w w' : World} {A : Option Addr} {xss : List (List Int)} (h : PRd w A xss) (hb : Below w.heap.size w w') : PRd w' A xss := by
  rcases h with h | ⟨g, o, h1, h2⟩
  · exact .inl h
  · refine .inr ⟨g, o, h1, fun i X hi => ?_⟩
    obtain ⟨Ai, ci, h3, h4⟩ := h2 i X hi
    exact ⟨Ai, ci, (hb.cell (lt_of_cell h3)).trans h3, h4.below hb⟩
theorem PRd.at {w : World} {A : Option Addr} {xss : List (List Int)} (h : PRd w A xss) (i : Nat) (hi : i < xss.length) : ∃ g o X Ai ci, A = some ⟨g, o, none⟩ ∧ xss[i]? = some X ∧ w.cell? ⟨g, o + i, none⟩ = some (.slice Ai X.length ci) ∧ Rd w Ai .u8 X := by
  rcases h with h | ⟨g, o, h1, h2⟩
  · subst h; simp at hi
  · obtain ⟨Ai, ci, h3, h4⟩ := h2 i _ (List.getElem?_eq_getElem hi)
    exact ⟨g, o, _, Ai, ci, h1, List.getElem?_eq_getElem hi, h3, h4⟩
theorem ownL_prd {w : World} {b : Nat} {e : TypeId} {v : Value} {xss : List (List Int)} (h : OwnL w b e 5 .u8 v xss) : ∃ A c, v = .slice A xss.length c ∧ xss.length ≤ c ∧ PRd w A xss := by
  obtain ⟨cs, hv, hl, hr⟩ := h
  obtain ⟨A, c, rfl, hc, hA, hcell⟩ := hv.parts
  refine ⟨A, c, by rw [hl], by omega, ?_⟩
  by_cases h0 : xss = []
  · exact .inl h0
  · have hpos : 0 < xss.length := List.length_pos_iff.2 h0
    obtain ⟨g, hA2, _⟩ := hcell 0 (by omega)
    refine .inr ⟨g, 0, hA2, fun i X hi => ?_⟩
    have hil := (List.getElem?_eq_some_iff.1 hi).1
    obtain ⟨g', hA3, hce⟩ := hcell i (by omega)
    rw [hA2] at hA3
    injection hA3 with hA3; injection hA3 with hA3
    subst hA3
    have h1 := hr i hil
    have e1 : xss.getD i [] = X := by rw [List.getD_eq_getElem?_getD, hi]; rfl
    have e2 : cs[i]? = some (cs.getD i undef) := by rw [List.getD_eq_getElem?_getD, List.getElem?_eq_getElem (by omega)]; rfl
    rw [e1] at h1
    obtain ⟨Ai, ci, h2, _, _, h5⟩ := h1.slice
    exact ⟨Ai, ci, by rw [Nat.zero_add, hce, e2, h2], h5⟩
end Go.Proofs.YtlikinglgegclaaDoor
/- The chunks' texts: how many there are, how long, and that they are bytes. -/
namespace Go.Proofs.YtlikinglgegclaaDoor
open Go.RowKit Go.Cour
theorem B8_of_bytesOk {xs : List Int} (h : bytesOk xs) : ∀ x ∈ xs, B8 x := fun x hx => by
  obtain ⟨i, hi⟩ := List.getElem?_of_mem hx
  have h2 := h i
  unfold rd at h2
  rw [List.getD_eq_getElem?_getD, hi] at h2
  exact h2
theorem pieceOf_chunk (xs : List Int) (q i : Int) (hq : 1 ≤ q) : (pieceOf xs q i).length ≤ q.toNat := by
  unfold pieceOf
  split
  · simp
  · rw [List.length_take, show max q 1 = q by omega]
    exact Nat.min_le_left _ _
theorem bytesOk_pieceR {xs : List Int} {q i : Int} (h : bytesOk xs) : bytesOk (pieceOf xs q i) := by
  unfold pieceOf
  split
  · exact fun j => by simp [rd]
  · exact bytesOk_take (bytesOk_drop h _) _
theorem allTexts_size (key xs : List Int) (q : Int) (h : xs.length ≤ 600) (_ : 1 ≤ q ∧ q ≤ 64) : (allTexts key xs q).length ≤ 600 := by
  rw [allTexts, allTo_length]
  have := countI_bounds xs.length q
  omega
theorem allTexts_ok (key xs : List Int) (q : Int) (rx : bytesOk xs) (hq : 1 ≤ q ∧ q ≤ 64) : ∀ X ∈ allTexts key xs q, X.length ≤ 80 ∧ ∀ x ∈ X, B8 x := fun X hX => by
  unfold allTexts allTo at hX
  obtain ⟨i, _, rfl⟩ := List.mem_map.1 hX
  unfold ssealText
  refine ⟨?_, B8_of_bytesOk (sealText_ok _ _ _ _ (bytesOk_pieceR rx))⟩
  rw [sealText_length]
  have := pieceOf_chunk xs q i hq.1
  omega
end Go.Proofs.YtlikinglgegclaaDoor
/- What lies in a stretch of memory as it lay in another world. -/
namespace Go.Cour
open Go.RowKit
/-- The blocks from B on that w1 has are as they are in w1. -/
def Ent.snap (B : Nat) (w1 : World) : Ent where
  F := fun k => B ≤ k ∧ k < w1.heap.size
  p := fun w => ∀ k, B ≤ k → k < w1.heap.size → w.heap[k]? = w1.heap[k]?
  lt := fun {w} h k hk => by
    have h2 := h k hk.1 hk.2
    rw [Array.getElem?_eq_getElem hk.2] at h2
    exact (Array.getElem?_eq_some_iff.1 h2).1
  kept := fun h hk k h1 h2 => (hk k ⟨h1, h2⟩).trans (h k h1 h2)
section
variable {w w' w1 w0 : World} {L : List Ent} {F : Nat → Prop} {B : Nat}
theorem HS.pushSnap (h : HS F w0 w L) (hb : Below w.heap.size w w') : HS F w0 w' (.snap w.heap.size w' :: L) :=
  h.push hb _ (fun _ _ _ => rfl) fun _ hk => hk.1
theorem HS.snap (h : HS F w0 w L) (i : Nat) (hi : L[i]? = some (.snap B w1)) : ∀ k, B ≤ k → k < w1.heap.size → w.heap[k]? = w1.heap[k]? := h.mem.get hi
theorem Own.snap {e : TypeId} {k : IntKind} {v : Value} {xs : List Int} (h : Own w1 B e k v xs) (hs : ∀ k, B ≤ k → k < w1.heap.size → w.heap[k]? = w1.heap[k]?) : Own w B e k v xs :=
  h.kept' fun j hj => hs j (h.base_le j hj) (h.lt_size j hj)
theorem OwnV.snap {e : TypeId} {v : Value} {cs : List Value} (h : OwnV w1 B e v cs) (hs : ∀ k, B ≤ k → k < w1.heap.size → w.heap[k]? = w1.heap[k]?) : OwnV w B e v cs :=
  h.kept' fun j hj => hs j (h.base_le j hj) (h.lt_size j hj)
theorem OwnL.snap {e e1 : TypeId} {k : IntKind} {v : Value} {xss : List (List Int)} (h : OwnL w1 B e e1 k v xss) (hs : ∀ k, B ≤ k → k < w1.heap.size → w.heap[k]? = w1.heap[k]?) : OwnL w B e e1 k v xss := by
  obtain ⟨cs, h1, h2, h3⟩ := h
  exact ⟨cs, OwnV.snap h1 hs, h2, fun j hj => Own.snap (h3 j hj) hs⟩
end
end Go.Cour
/- The reference's Make. -/
namespace Go.Proofs.YtlikinglgegclaaDoor
open Go.RowKit Go.Cour
def zeroD : List Value := descC 0 0 0 (List.replicate 32 0) (List.replicate 32 0) (List.replicate 32 0)
theorem zeroD_length : zeroD.length = 99 := descC_length (by simp) (by simp) (by simp)
theorem zeroDesc : ((Tryd.prog.info? 32).bind (·.zero)).map (·.cells) = some zeroD.toArray := by kernel_rfl
theorem builtDesc (id m q : Int) (key root blob : List Int) (hk : key.length = 32) (hr : root.length = 32) (hb : blob.length = 32) : Tryd.prog.built 32 [(0, .int .u32 id), (1, .int .u32 m), (2, .int .u32 q), (3, .agg (ints .u8 key).toArray), (4, .agg (ints .u8 root).toArray), (5, .agg (ints .u8 blob).toArray)] = some (descC id m q key root blob).toArray := by
  match key, hk with
  | [x0, x1, x2, x3, x4, x5, x6, x7, x8, x9, x10, x11, x12, x13, x14, x15, x16, x17, x18, x19, x20, x21, x22, x23, x24, x25, x26, x27, x28, x29, x30, x31], _ =>
    match root, hr with
    | [y0, y1, y2, y3, y4, y5, y6, y7, y8, y9, y10, y11, y12, y13, y14, y15, y16, y17, y18, y19, y20, y21, y22, y23, y24, y25, y26, y27, y28, y29, y30, y31], _ =>
      match blob, hb with
      | [z0, z1, z2, z3, z4, z5, z6, z7, z8, z9, z10, z11, z12, z13, z14, z15, z16, z17, z18, z19, z20, z21, z22, z23, z24, z25, z26, z27, z28, z29, z30, z31], _ => change _ = _; kernel_rfl
def ZD (g : Nat) : Ent := .blk g 32 zeroD
/-- A blob's hashes, and the blob. -/
def hashesOf (ts : List (List Int)) : List (List Int) := ts.map leafOf
def blobOf (ts : List (List Int)) : List Int := (hashesOf ts).flatten ++ ts.flatten
def rowsOf (hs : List (List Int)) : List (List Value) := hs.map (ints .u8)
theorem hashesOf_H32 (ts : List (List Int)) : H32 (hashesOf ts) := fun h hh => by
  obtain ⟨X, _, rfl⟩ := List.mem_map.1 hh
  exact ⟨leafOf_length X, leafOf_B8 X⟩
theorem ownA_hrd {w : World} {e : TypeId} {A : Option Addr} {n c : Nat} {hss : List (List Int)} (h : OwnA w e 32 (.slice A n c) (rowsOf hss)) : HRd w A hss ∧ n = hss.length ∧ n ≤ c := by
  obtain ⟨A', c', hv, hc, hr⟩ := h.parts
  injection hv with h1 h2 h3
  subst h1 h3
  have hn : n = hss.length := by rw [h2]; simp [rowsOf]
  refine ⟨?_, hn, by rw [h2]; exact hc⟩
  by_cases h0 : hss = []
  · exact .inl h0
  · have hg : ∀ (i : Nat) (x : List Int), hss[i]? = some x → (rowsOf hss)[i]? = some (ints .u8 x) := fun i x hx => by unfold rowsOf; rw [List.getElem?_map, hx]; rfl
    obtain ⟨g, hA, _⟩ := hr 0 _ (hg 0 _ (List.getElem?_eq_getElem (List.length_pos_iff.2 h0)))
    refine .inr ⟨g, 0, hA, fun i x j u hi hj => ?_⟩
    obtain ⟨g', hA', hcell⟩ := hr i _ (hg i x hi)
    rw [hA] at hA'
    injection hA' with hA'; injection hA' with hA'
    subst hA'
    rw [Nat.zero_add]
    exact hcell j u hj
theorem flat_le {ts : List (List Int)} {b : Nat} (h : ∀ X ∈ ts, X.length ≤ b) : ts.flatten.length ≤ b * ts.length := by
  induction ts with
  | nil => simp
  | cons X ts ih =>
    have h1 := h X (by simp)
    have h2 := ih fun Y hY => h Y (by simp [hY])
    rw [List.flatten_cons, List.length_append, List.length_cons, Nat.mul_succ]
    omega
theorem flat_B8 {ts : List (List Int)} (h : ∀ X ∈ ts, ∀ x ∈ X, B8 x) : ∀ x ∈ ts.flatten, B8 x := fun x hx => by
  obtain ⟨X, hX, hx⟩ := List.mem_flatten.1 hx
  exact h X hX x hx
theorem take_snoc {α : Type} {l : List α} {i : Nat} {x : α} (h : l[i]? = some x) : l.take (i + 1) = l.take i ++ [x] := by rw [List.take_add_one, h]; rfl
theorem infoHashA : (Tryd.prog.info? 30).map (fun i => (i.zero.map (·.cells.size), i.size, i.bytes)) = some (some 32, 32, 32) := by kernel_rfl
theorem zeroHashA : ((Tryd.prog.info? 30).bind (·.zero)).isSome = true := by kernel_rfl
theorem infoKeyS : (Tryd.prog.info? 27).map (·.size) = some 32 := by kernel_rfl
theorem arrKeyS : Tryd.prog.underlying 27 = some (.array 32 5) := by kernel_rfl
set_option maxHeartbeats 2000000 in
set_option maxRecDepth 100000 in
theorem make16_calls (key xs : List Int) (id q : Int) (A : Option Addr) (m c : Nat) (w : World) (hk : key.length = 32) (rk : bytesOk key)
    (rx : bytesOk xs) (hm : xs.length = m) (hA : A = none → c = 0) (hc : m ≤ c) (hr : Rd w A .u8 xs) (hl : m ≤ 600) (hq : 1 ≤ q ∧ q ≤ 64) (hi : 0 ≤ id ∧ id < 4294967296) :
    Calls Tryd.prog 28 #[.int .u32 id, .slice A m c, .int .i64 q, .agg (ints .u8 key).toArray] w fun e w' => ∃ v, e = .returned (.tuple #[.agg (descC id m q key (rootOf (hashesOf (allTexts key xs q))) (shaOf (blobOf (allTexts key xs q)))).toArray, v]) ∧ OwnS w' 5 v (ints .u8 (blobOf (allTexts key xs q))) ∧ (∀ k, v.ownBlock = some k → w.heap.size ≤ k) ∧ Below w.heap.size w w' := by
  have HK := hid hk
  have RK := hid rk
  have RX := hid rx
  have HM := hid hm
  have HA := hid hA
  have HR := hid hr
  have hS := HS.start NoF w
  have HTS := hid (allTexts_size key xs q (by omega) hq)
  have HTO := hid (allTexts_ok key xs q rx hq)
  clear hk rk rx hm hA hr
  obtain ⟨hq1, hq2⟩ := hq
  have hl2 : ¬ (600 : Int) < m := by omega
  have hq3 : ¬ q < 1 := by omega
  have hq4 : ¬ (64 : Int) < q := by omega
  go_enter Tryd.func28, Tryd.ntmps28
  go_wp2_with (first
    | (refine box_blk rfl 27 _ rfl _ rfl (ints .u8 key) rfl ?_; intro g7 w7 hga hba hBa hsa; replace hS := hS.pushBlk hBa hba hga; clear hga hba hBa hsa)
    | (refine alloc_blk rfl 32 rfl _ rfl zeroD zeroDesc ?_; intro g8 w8 hga hba hBa hsa; replace hS : HS NoF w w8 [ZD g8, .blk g7 27 (ints .u8 key)] := hS.pushBlk hBa hba hga; clear hga hba hBa hsa)
    | (refine hs_loadW hS 1 rfl rfl 27 _ rfl rfl 32 infoKeyS (by simp [HK.out]) _ arrKeyS rfl _ rfl ?_)
    | (go_at_call 57; refine (all16_calls key xs q A m c _ HK.out RK.out RX.out HM.out.symm HA.out hc (hS.oldRd HR.out (fun _ _ _ h => h)) (by rw [HM.out]; omega) (by omega)).mono ?_; rintro e w5 ⟨v5, rfl, hox, hB5⟩
       replace hS := hS.pushSnap hB5; clear hB5
       obtain ⟨A5, c5, rfl, hc5, hp5⟩ := ownL_prd hox
       obtain ⟨B5, hB5⟩ : ∃ B, Hd (w8.heap.size = B) := ⟨_, hid rfl⟩
       rw [hB5.out] at hS hox
       have HP : Hd (∀ w', (∀ k, B5 ≤ k → k < w5.heap.size → w'.heap[k]? = w5.heap[k]?) → PRd w' A5 (allTexts key xs q)) := hid (fun w' hs => by
         obtain ⟨A', c', hv', _, hp⟩ := ownL_prd (OwnL.snap hox hs)
         injection hv' with h1
         subst h1
         exact hp)
       clear hox hp5)
    | fail)
  obtain ⟨ts, hts⟩ : ∃ ts, Hd (allTexts key xs q = ts) := ⟨_, hid rfl⟩
  rw [hts.out] at hc5 HTS HTO HP ⊢
  obtain ⟨N, hN⟩ : ∃ N, Hd (ts.length = N) := ⟨_, hid rfl⟩
  rw [hN.out] at hc5 HTS ⊢
  have hN6 : N ≤ 600 := HTS.out
  have hHL : Hd ((hashesOf ts).length = N) := hid (by rw [← hN.out]; simp [hashesOf])
  have hH32 := hid (hashesOf_H32 ts)
  replace hS : HS NoF w w5 [.oa 30 32 (.slice none 0 0) (rowsOf ((hashesOf ts).take 0)), .os 5 (.slice none 0 0) (ints .u8 ((hashesOf ts).take 0).flatten), .snap B5 w5, ZD g8, .blk g7 27 (ints .u8 key)] := (hS.push (Below.refl _ _) (.os 5 (.slice none 0 0) []) (OwnS.nil _ _) (fun k hk => by simp [Ent.os, Value.ownBlock] at hk)).push (Below.refl _ _) (.oa 30 32 (.slice none 0 0) []) (OwnA.nil _ _ _) (fun k hk => by simp [Ent.oa, Value.ownBlock] at hk)
  go_loopg [11, 12, 13] N (fun kq v11 v12 v13 wr => ∃ (i : Nat) (A1 : Option Addr) (n1 c1 : Nat) (A2 : Option Addr) (n2 c2 : Nat), i ≤ N ∧ v11 = .slice A1 n1 c1 ∧ v12 = .slice A2 n2 c2 ∧ v13 = .int .i64 i ∧ Hd (kq + i = N) ∧ HS NoF w wr [.oa 30 32 (.slice A1 n1 c1) (rowsOf ((hashesOf ts).take i)), .os 5 (.slice A2 n2 c2) (ints .u8 ((hashesOf ts).take i).flatten), .snap B5 w5, ZD g8, .blk g7 27 (ints .u8 key)])
  case atStart => exact ⟨0, none, 0, 0, none, 0, 0, Nat.zero_le _, rfl, rfl, rfl, hid (by omega), hS⟩
  case round =>
    clear hS
    obtain ⟨i, A1, n1, c1, A2, n2, c2, hi, rfl, rfl, rfl, hqq, hS⟩ := hrel
    by_cases hlt : i < N
    · obtain ⟨gx, ox, X, Ax, cx, hAx, hX, CX, RXX⟩ := (HP.out _ (hS.snap 2 rfl)).at i (by rw [hN.out]; exact hlt)
      have HX := hid hX
      have HRX := hid RXX
      have HXB := hid (HTO.out X (List.mem_of_getElem? hX))
      clear hX RXX
      obtain ⟨xn, hxn⟩ : ∃ xn, Hd (X.length = xn) := ⟨_, hid rfl⟩
      rw [hxn.out] at CX
      have hYL : Hd ((leafOf X).length = 32) := hid (leafOf_length X)
      have HY : Hd ((hashesOf ts)[i]? = some (leafOf X)) := hid (by unfold hashesOf; rw [List.getElem?_map, HX.out]; rfl)
      obtain ⟨Y, hY⟩ : ∃ Y, Hd (leafOf X = Y) := ⟨_, hid rfl⟩
      rw [hY.out] at HY hYL
      have hlt2 : (i : Int) < N := by omega
      have HRR : Hd (rowsOf ((hashesOf ts).take i) ++ [ints .u8 Y] = rowsOf ((hashesOf ts).take (i + 1))) := hid (by rw [take_snoc HY.out]; simp [rowsOf])
      have HBB : Hd (((hashesOf ts).take i).flatten ++ Y = ((hashesOf ts).take (i + 1)).flatten) := hid (by rw [take_snoc HY.out]; simp)
      have HRL : Hd ((rowsOf ((hashesOf ts).take i)).length = i) := hid (by simp [rowsOf, hHL.out]; omega)
      have HBL : Hd (((hashesOf ts).take i).flatten.length ≤ 32 * 600) := hid (by
        have := flat_le (ts := (hashesOf ts).take i) (b := 32) (fun X hX => Nat.le_of_eq (hH32.out X (List.mem_of_mem_take hX)).1)
        rw [List.length_take] at this
        have h2 : min i (hashesOf ts).length ≤ 600 := by omega
        exact Nat.le_trans this (Nat.mul_le_mul_left _ h2))
      generalize rowsOf ((hashesOf ts).take i) = R at *
      generalize ((hashesOf ts).take i).flatten = B at *
      subst hAx
      go_wp2_with (first
        | (go_at_call 15; refine (leaf16_calls X Ax xn cx _ hxn.out HRX.out HXB.out.2 (by have := HXB.out.1; have := hxn.out; omega)).mono ?_; rintro e w6 ⟨rfl, hB6⟩; replace hS := hS.below hB6; clear CX hB6; rw [hY.out])
        | (refine alloc_blk rfl 30 rfl _ rfl (ints .u8 (List.replicate 32 0)) zeroHashS ?_; intro g14 w14 hga hba hBa hsa; replace hS := hS.pushBlk hBa hba hga; clear hga hba hBa hsa)
        | (refine hs_storeW hS 0 rfl rfl 30 _ _ rfl rfl (ints .u8 Y) rfl (ints_one' _ _) _ infoHashS (by simp [hYL.out]) (by simp) _ rfl ?_; clear hS; intro w15 hS; replace hS : HS NoF w w15 (.blk g14 30 (ints .u8 Y) :: [.oa 30 32 (.slice A1 n1 c1) R, .os 5 (.slice A2 n2 c2) (ints .u8 B), .snap B5 w5, ZD g8, .blk g7 27 (ints .u8 key)]) := hS)
        | (refine hs_loadW hS 0 rfl rfl 30 _ rfl rfl 32 infoHashS (by simp [hYL.out]) _ arrHashS rfl _ rfl ?_)
        | (refine literal_agg rfl 40 30 _ rfl (ints .u8 Y) 32 rfl (by simp [hYL.out]) undLHashT infoHashS zeroHashA (by omega) (by omega) ?_; intro g16 w16 hga hba hBa hsa; replace hS := hS.pushBlk hBa hba hga; clear hga hba hBa hsa)
        | (refine hs_appA hS 2 rfl rfl _ _ 40 rfl 32 undLHashT infoHashA (by omega) rfl g16 (ints .u8 Y) rfl (hS.blk 0 rfl) (by simp [hYL.out]) (ints_one' _ _) (by rw [HRL.out]; omega) (by rw [HRL.out]; omega) _ rfl ?_
           clear hS; intro A3 n3 c3 w17 hn3 hc3 hS; clear hn3
           replace hS : HS NoF w w17 (.blk g16 30 (ints .u8 Y) :: .blk g14 30 (ints .u8 Y) :: [.oa 30 32 (.slice A3 n3 c3) (R ++ [ints .u8 Y]), .os 5 (.slice A2 n2 c2) (ints .u8 B), .snap B5 w5, ZD g8, .blk g7 27 (ints .u8 key)]) := hS)
        | (refine hs_append hS 3 rfl rfl _ _ 24 rfl 1 undBytesS infoU8S zeroU8S rfl (some ⟨g14, 0, none⟩) 32 32 rfl (ints .u8 Y) (by rw [ints_length]; exact hYL.out) (news_of_rd (Blk.rdA (hS.blk 1 rfl))) (ints_one' _ _) (by rw [ints_length]; have := HBL.out; omega) (by rw [ints_length]; have := HBL.out; omega) _ rfl ?_
           clear hS; intro A4 n4 c4 w18 hn4 hc4 hA4 hS; clear hn4; rw [← ints_append] at hS
           replace hS : HS NoF w w18 [.oa 30 32 (.slice A3 n3 c3) (R ++ [ints .u8 Y]), .os 5 (.slice A4 n4 c4) (ints .u8 (B ++ Y)), .snap B5 w5, ZD g8, .blk g7 27 (ints .u8 key)] := (hS.erase 0).erase 0)
        | fail)
      rw [HRR.out, HBB.out] at hS
      go_roundg (gk - 1)
      case measure => have := hqq.out; omega
      case rel => exact ⟨i + 1, A3, n3, c3, A4, n4, c4, by omega, rfl, rfl, by go_num, hid (by have := hqq.out; omega), hS⟩
    · obtain rfl : i = N := by omega
      have hlt2 : ¬ (i : Int) < i := by omega
      rw [List.take_of_length_le (by rw [hHL.out]; omega)] at hS
      have HBL : Hd ((hashesOf ts).flatten.length ≤ 32 * 600) := hid (by
        have := flat_le (ts := hashesOf ts) (b := 32) (fun X hX => Nat.le_of_eq (hH32.out X hX).1)
        have h2 : (hashesOf ts).length ≤ 600 := by rw [hHL.out]; omega
        exact Nat.le_trans this (Nat.mul_le_mul_left _ h2))
      have HBO : Hd ((hashesOf ts).flatten ++ ts.flatten = blobOf ts) := hid rfl
      have HB8 : Hd (∀ x ∈ blobOf ts, B8 x) := hid (B8_append (flat_B8 fun X hX => (hH32.out X hX).2) (flat_B8 fun X hX => (HTO.out X hX).2))
      have HRF : Hd (rootF i (hashesOf ts) = rootOf (hashesOf ts)) := hid (rootF_eq _ _ _ (by rw [hHL.out]; omega) (Nat.le_refl _))
      have HRT := hid (rootF_H32 i _ hH32.out)
      have HSL : Hd ((shaOf (blobOf ts)).length = 32) := hid (shaOf_length _)
      obtain ⟨D, hD⟩ : ∃ D, Hd (shaOf (blobOf ts) = D) := ⟨_, hid rfl⟩
      rw [hD.out] at HSL
      rw [HRF.out] at HRT
      obtain ⟨RT, hRT⟩ : ∃ RT, Hd (rootOf (hashesOf ts) = RT) := ⟨_, hid rfl⟩
      rw [hRT.out] at HRT HRF
      obtain ⟨hs, hhs⟩ : ∃ hs, Hd (hashesOf ts = hs) := ⟨_, hid rfl⟩
      rw [hhs.out] at hS HBL HBO hHL hH32 HRF
      go_wp2_with fail
      clear hlt
      replace hS : HS NoF w wr [.oa 30 32 (.slice A1 n1 c1) (rowsOf hs), .os 5 (.slice A2 n2 c2) (ints .u8 (hs.flatten ++ (ts.take 0).flatten)), .snap B5 w5, ZD g8, .blk g7 27 (ints .u8 key)] := by simpa using hS
      go_loopg [12, 15] i (fun kq v12 v15 wr => ∃ (j : Nat) (A2 : Option Addr) (n2 c2 : Nat), j ≤ i ∧ v12 = .slice A2 n2 c2 ∧ v15 = .int .i64 j ∧ Hd (kq + j = i) ∧ HS NoF w wr [.oa 30 32 (.slice A1 n1 c1) (rowsOf hs), .os 5 (.slice A2 n2 c2) (ints .u8 (hs.flatten ++ (ts.take j).flatten)), .snap B5 w5, ZD g8, .blk g7 27 (ints .u8 key)])
      case atStart => exact ⟨0, A2, n2, c2, Nat.zero_le _, rfl, rfl, hid (by omega), hS⟩
      case round =>
        clear hS
        obtain ⟨j, A2, n2, c2, hj, rfl, rfl, hqj, hS⟩ := hrel
        by_cases hlt : j < i
        · obtain ⟨gx, ox, X, Ax, cx, hAx, hX, CX, RXX⟩ := (HP.out _ (hS.snap 2 rfl)).at j (by rw [hN.out]; exact hlt)
          have HX := hid hX
          have HRX := hid RXX
          have HXB := hid (HTO.out X (List.mem_of_getElem? hX))
          clear hX RXX
          obtain ⟨xn, hxn⟩ : ∃ xn, Hd (X.length = xn) := ⟨_, hid rfl⟩
          rw [hxn.out] at CX
          have hlt3 : (j : Int) < i := by omega
          have hxb : xn ≤ 80 := by have := HXB.out.1; have := hxn.out; omega
          have HBB : Hd (hs.flatten ++ (ts.take j).flatten ++ X = hs.flatten ++ (ts.take (j + 1)).flatten) := hid (by rw [take_snoc HX.out]; simp)
          have HTL : Hd ((hs.flatten ++ (ts.take j).flatten).length ≤ 32 * 600 + 80 * 600) := hid (by
            have := flat_le (ts := ts.take j) (b := 80) (fun X hX => (HTO.out X (List.mem_of_mem_take hX)).1)
            rw [List.length_take] at this
            have h2 : min j ts.length ≤ 600 := by omega
            rw [List.length_append]
            have h3 := Nat.mul_le_mul_left 80 h2
            have := HBL.out
            omega)
          generalize hs.flatten ++ (ts.take j).flatten = B at *
          subst hAx
          go_wp2_with (first
            | (refine hs_append hS 1 rfl rfl _ _ 24 rfl 1 undBytesS infoU8S zeroU8S rfl Ax xn cx rfl (ints .u8 X) (by rw [ints_length]; exact hxn.out) (news_of_rd HRX.out) (ints_one' _ _) (by rw [ints_length]; have := HTL.out; omega) (by rw [ints_length]; have := HTL.out; omega) _ rfl ?_
               clear hS CX; intro A4 n4 c4 w18 hn4 hc4 hA4 hS; clear hn4; rw [← ints_append] at hS
               replace hS : HS NoF w w18 [.oa 30 32 (.slice A1 n1 c1) (rowsOf hs), .os 5 (.slice A4 n4 c4) (ints .u8 (B ++ X)), .snap B5 w5, ZD g8, .blk g7 27 (ints .u8 key)] := hS)
            | fail)
          rw [HBB.out] at hS
          go_roundg (gk - 1)
          case measure => have := hqj.out; omega
          case rel => exact ⟨j + 1, A4, n4, c4, by omega, rfl, by go_num, hid (by have := hqj.out; omega), hS⟩
        · obtain rfl : j = i := by omega
          have hlt3 : ¬ (j : Int) < j := by omega
          rw [List.take_of_length_le (by rw [hN.out]; omega), HBO.out] at hS
          have HBZ : Hd ((blobOf ts).length ≤ 100000) := hid (by
            have h1 := flat_le (ts := ts) (b := 80) (fun X hX => (HTO.out X hX).1)
            have h2 : ts.length ≤ 600 := by rw [hN.out]; omega
            rw [← HBO.out, List.length_append]
            have h3 := Nat.mul_le_mul_left 80 h2
            have := HBL.out
            omega)
          obtain ⟨bs, hbs⟩ : ∃ bs, Hd (blobOf ts = bs) := ⟨_, hid rfl⟩
          rw [hbs.out] at hS HBZ HB8 hD
          go_wp2_with fail
          clear hlt
          replace hS : HS NoF w wr [ZD g8, .oa 30 32 (.slice A1 n1 c1) (rowsOf hs), .os 5 (.slice A2 n2 c2) (ints .u8 bs), .snap B5 w5, .blk g7 27 (ints .u8 key)] := hS.perm (List.perm_middle (l₁ := [_, _, _]))
          try go_wp2_with fail
          refine wp_region_S (F := NoF) (w0 := w) (L0 := [.oa 30 32 (.slice A1 n1 c1) (rowsOf hs), .os 5 (.slice A2 n2 c2) (ints .u8 bs), .snap B5 w5, .blk g7 27 (ints .u8 key)]) [8, 10] [13]
            (fun iK u E => match iK with
              | 8 => u = .agg (ints .u8 RT).toArray ∧ E = []
              | 10 => u = .agg (ints .u8 D).toArray ∧ E = []
              | _ => False)
            ([ZD g8]) (by kernel_rfl) (by kernel_rfl) hS ?_
          show wpS _ _ _ _ _ _ _ _ _ _ [0, 1, 2, 3, 4, 5, 6, 7, 8, 9, 10, 11, 12, 13, 14] _
          apply wpS_read (i := 0) rfl rfl ⟨_, (HS.drop2 (E := [ZD g8]) (L := [.oa 30 32 (.slice A1 n1 c1) (rowsOf hs), .os 5 (.slice A2 n2 c2) (ints .u8 bs), .snap B5 w5, .blk g7 27 (ints .u8 key)]) hS)⟩ rfl -- Op.move t0
          · intro w' hT'
            simp only [List.getElem_toArray, List.getElem_cons_zero, List.getElem_cons_succ]
            go_wp2_with fail
            first | exact ⟨rfl, rfl, rfl⟩ | rfl
          apply wpS_read (i := 1) rfl rfl ⟨_, (HS.drop2 (E := [ZD g8]) (L := [.oa 30 32 (.slice A1 n1 c1) (rowsOf hs), .os 5 (.slice A2 n2 c2) (ints .u8 bs), .snap B5 w5, .blk g7 27 (ints .u8 key)]) hS)⟩ rfl -- Op.move t1
          · intro w' hT'
            simp only [List.getElem_toArray, List.getElem_cons_zero, List.getElem_cons_succ]
            go_wp2_with fail
            first | exact ⟨rfl, rfl, rfl⟩ | rfl
          apply wpS_read (i := 2) rfl rfl ⟨_, (HS.drop2 (E := [ZD g8]) (L := [.oa 30 32 (.slice A1 n1 c1) (rowsOf hs), .os 5 (.slice A2 n2 c2) (ints .u8 bs), .snap B5 w5, .blk g7 27 (ints .u8 key)]) hS)⟩ rfl -- Op.call { builtin len, args := #[t63], argTypes := #[24] }
          · intro w' hT'
            simp only [List.getElem_toArray, List.getElem_cons_zero, List.getElem_cons_succ]
            go_wp2_with fail
            first | exact ⟨rfl, rfl, rfl⟩ | rfl
          apply wpS_read (i := 3) rfl rfl ⟨_, (HS.drop2 (E := [ZD g8]) (L := [.oa 30 32 (.slice A1 n1 c1) (rowsOf hs), .os 5 (.slice A2 n2 c2) (ints .u8 bs), .snap B5 w5, .blk g7 27 (ints .u8 key)]) hS)⟩ rfl -- Op.convert 3 29 t64
          · intro w' hT'
            simp only [List.getElem_toArray, List.getElem_cons_zero, List.getElem_cons_succ]
            go_wp2_with (first
              | (refine hs_loadW hT' 3 rfl rfl 27 _ rfl rfl 32 infoKeyS (by simp [HK.out]) _ arrKeyS rfl _ rfl ?_)
              | (refine build_to rfl 32 _ rfl (descC id m q key RT D).toArray (by rw [Array.toList_map]; exact builtDesc _ _ _ _ _ _ HK.out HRT.out.1 HSL.out) ?_)
              | fail)
            first | exact ⟨rfl, rfl, rfl⟩ | rfl
          apply wpS_read (i := 4) rfl rfl ⟨_, (HS.drop2 (E := [ZD g8]) (L := [.oa 30 32 (.slice A1 n1 c1) (rowsOf hs), .os 5 (.slice A2 n2 c2) (ints .u8 bs), .snap B5 w5, .blk g7 27 (ints .u8 key)]) hS)⟩ rfl -- Op.move t2
          · intro w' hT'
            simp only [List.getElem_toArray, List.getElem_cons_zero, List.getElem_cons_succ]
            go_wp2_with fail
            first | exact ⟨rfl, rfl, rfl⟩ | rfl
          apply wpS_read (i := 5) rfl rfl ⟨_, (HS.drop2 (E := [ZD g8]) (L := [.oa 30 32 (.slice A1 n1 c1) (rowsOf hs), .os 5 (.slice A2 n2 c2) (ints .u8 bs), .snap B5 w5, .blk g7 27 (ints .u8 key)]) hS)⟩ rfl -- Op.convert 3 29 t66
          · intro w' hT'
            simp only [List.getElem_toArray, List.getElem_cons_zero, List.getElem_cons_succ]
            go_wp2_with (first
              | (refine hs_loadW hT' 3 rfl rfl 27 _ rfl rfl 32 infoKeyS (by simp [HK.out]) _ arrKeyS rfl _ rfl ?_)
              | (refine build_to rfl 32 _ rfl (descC id m q key RT D).toArray (by rw [Array.toList_map]; exact builtDesc _ _ _ _ _ _ HK.out HRT.out.1 HSL.out) ?_)
              | fail)
            first | exact ⟨rfl, rfl, rfl⟩ | rfl
          apply wpS_read (i := 6) rfl rfl ⟨_, (HS.drop2 (E := [ZD g8]) (L := [.oa 30 32 (.slice A1 n1 c1) (rowsOf hs), .os 5 (.slice A2 n2 c2) (ints .u8 bs), .snap B5 w5, .blk g7 27 (ints .u8 key)]) hS)⟩ rfl -- Op.load 27 t7
          · intro w' hT'
            simp only [List.getElem_toArray, List.getElem_cons_zero, List.getElem_cons_succ]
            go_wp2_with (first
              | (refine hs_loadW hT' 3 rfl rfl 27 _ rfl rfl 32 infoKeyS (by simp [HK.out]) _ arrKeyS rfl _ rfl ?_)
              | (refine build_to rfl 32 _ rfl (descC id m q key RT D).toArray (by rw [Array.toList_map]; exact builtDesc _ _ _ _ _ _ HK.out HRT.out.1 HSL.out) ?_)
              | fail)
            first | exact ⟨rfl, rfl, rfl⟩ | rfl
          apply wpS_read (i := 7) rfl rfl ⟨_, (HS.drop2 (E := [ZD g8]) (L := [.oa 30 32 (.slice A1 n1 c1) (rowsOf hs), .os 5 (.slice A2 n2 c2) (ints .u8 bs), .snap B5 w5, .blk g7 27 (ints .u8 key)]) hS)⟩ rfl -- Op.move t11
          · intro w' hT'
            simp only [List.getElem_toArray, List.getElem_cons_zero, List.getElem_cons_succ]
            go_wp2_with fail
            first | exact ⟨rfl, rfl, rfl⟩ | rfl
          refine wpS_soft (i := 8) rfl rfl rfl (Nat.le_of_ble_eq_true rfl) ?_ ?_ -- Op.call { value (Operand.func 19), args := #[t69], argTypes := #[40]
          · intro w' hT
            simp only [List.getElem_toArray, List.getElem_cons_zero, List.getElem_cons_succ]
            go_wp2_with (first
              | (go_at_call 18; refine (root16_calls j hs A1 n1 c1 _ (ownA_hrd (hT.oa 0 rfl)).2.1.symm (by rw [(ownA_hrd (hT.oa 0 rfl)).2.1, hHL.out]; omega) (ownA_hrd (hT.oa 0 rfl)).1 hH32.out (ownA_hrd (hT.oa 0 rfl)).2.2 (by rw [(ownA_hrd (hT.oa 0 rfl)).2.1, hHL.out]; omega)).mono ?_; rintro e w6 ⟨rfl, hB6⟩; rw [HRF.out])
              | fail)
            exact SoftP.mk' (.agg (ints .u8 RT).toArray) ([]) rfl (⟨rfl, rfl⟩) (hT.below hB6) (hB6) (fun _ h => by cases h)
          intro u8 E8 hK8
          obtain ⟨rfl, rfl⟩ := hK8
          simp only [Act.put, List.setIfInBounds_toArray, List.set_cons_zero, List.set_cons_succ]
          apply wpS_read (i := 9) rfl rfl ⟨_, (HS.drop2 (E := [ZD g8]) (L := [.oa 30 32 (.slice A1 n1 c1) (rowsOf hs), .os 5 (.slice A2 n2 c2) (ints .u8 bs), .snap B5 w5, .blk g7 27 (ints .u8 key)]) hS)⟩ rfl -- Op.move t12
          · intro w' hT'
            simp only [List.getElem_toArray, List.getElem_cons_zero, List.getElem_cons_succ]
            go_wp2_with fail
            first | exact ⟨rfl, rfl, rfl⟩ | rfl
          refine wpS_soft (i := 10) rfl rfl rfl (Nat.le_of_ble_eq_true rfl) ?_ ?_ -- Op.call { value (Operand.func 14), args := #[t71], argTypes := #[24]
          · intro w' hT
            simp only [List.getElem_toArray, List.getElem_cons_zero, List.getElem_cons_succ]
            go_wp2_with (first
              | (go_at_call 13; refine (sum1_calls bs A2 n2 c2 _ (by have := (hT.os 1 rfl).len.1; rw [ints_length] at this; omega) ((hT.os 1 rfl).rd rfl) HB8.out (by have := (hT.os 1 rfl).len.1; rw [ints_length] at this; have := HBZ.out; omega)).mono ?_; rintro e w6 ⟨rfl, hB6⟩; rw [hD.out])
              | fail)
            exact SoftP.mk' (.agg (ints .u8 D).toArray) ([]) rfl (⟨rfl, rfl⟩) (hT.below hB6) (hB6) (fun _ h => by cases h)
          intro u10 E10 hK10
          obtain ⟨rfl, rfl⟩ := hK10
          simp only [Act.put, List.setIfInBounds_toArray, List.set_cons_zero, List.set_cons_succ]
          apply wpS_read (i := 11) rfl rfl ⟨_, (HS.drop2 (E := [ZD g8]) (L := [.oa 30 32 (.slice A1 n1 c1) (rowsOf hs), .os 5 (.slice A2 n2 c2) (ints .u8 bs), .snap B5 w5, .blk g7 27 (ints .u8 key)]) hS)⟩ rfl -- Op.build 32 #[(0, t62), (1, t65), (2, t67), (3, t68), (4, t70), (5, t
          · intro w' hT'
            simp only [List.getElem_toArray, List.getElem_cons_zero, List.getElem_cons_succ]
            go_wp2_with (first
              | (refine hs_loadW hT' 3 rfl rfl 27 _ rfl rfl 32 infoKeyS (by simp [HK.out]) _ arrKeyS rfl _ rfl ?_)
              | (refine build_to rfl 32 _ rfl (descC id m q key RT D).toArray (by rw [Array.toList_map]; exact builtDesc _ _ _ _ _ _ HK.out HRT.out.1 HSL.out) ?_)
              | fail)
            first | exact ⟨rfl, rfl, rfl⟩ | rfl
          apply wpS_read (i := 12) rfl rfl ⟨_, (HS.drop2 (E := [ZD g8]) (L := [.oa 30 32 (.slice A1 n1 c1) (rowsOf hs), .os 5 (.slice A2 n2 c2) (ints .u8 bs), .snap B5 w5, .blk g7 27 (ints .u8 key)]) hS)⟩ rfl -- Op.move t12
          · intro w' hT'
            simp only [List.getElem_toArray, List.getElem_cons_zero, List.getElem_cons_succ]
            go_wp2_with fail
            first | exact ⟨rfl, rfl, rfl⟩ | rfl
          refine wpS_hard (i := 13) rfl rfl ?_ -- Op.store 32 t8 t73
          intro w13 hT
          replace hT : HS NoF w w13 [ZD g8, .oa 30 32 (.slice A1 n1 c1) (rowsOf hs), .os 5 (.slice A2 n2 c2) (ints .u8 bs), .snap B5 w5, .blk g7 27 (ints .u8 key)] := hT
          simp only [List.getElem_toArray, List.getElem_cons_zero, List.getElem_cons_succ]
          go_wp2_with (first
            | (refine hs_storeW hT 0 rfl rfl 32 _ _ rfl rfl (descC id m q key RT D) rfl (descC_one _ _ _ _ _ _) 99 sizeDesc (descC_length HK.out HRT.out.1 HSL.out) zeroD_length _ rfl ?_; clear hT; intro w9 hT)
            | fail)
          refine HardP.mk' ([.blk g8 32 (descC id m q key RT D)]) rfl ?_ ?_
          · exact hT
          clear hT
          apply wpS_read (i := 14) rfl rfl ⟨_, (HS.drop2 (E := [ZD g8]) (L := [.oa 30 32 (.slice A1 n1 c1) (rowsOf hs), .os 5 (.slice A2 n2 c2) (ints .u8 bs), .snap B5 w5, .blk g7 27 (ints .u8 key)]) hS)⟩ rfl -- Op.assign t74
          · intro w' hT'
            simp only [List.getElem_toArray, List.getElem_cons_zero, List.getElem_cons_succ]
            go_wp2_with fail
            first | exact ⟨rfl, rfl, rfl⟩ | rfl
          refine wpS_end ?_
          intro wz hT
          try dsimp only
          clear hS
          have hS : HS NoF w wz [.blk g8 32 (descC id m q key RT D), .oa 30 32 (.slice A1 n1 c1) (rowsOf hs), .os 5 (.slice A2 n2 c2) (ints .u8 bs), .snap B5 w5, .blk g7 27 (ints .u8 key)] := hT
          clear hT
          go_wp2_with fail
          refine bodyPost_ret (results_str2 rfl _ _ g8 _ _ (.slice A2 n2 c2) _ rfl rfl (hS.blk 0 rfl) Tryd.underlying32 (by rw [descC_length HK.out HRT.out.1 HSL.out]; exact sizeDesc)) rfl ⟨_, by rw [hts.out, hRT.out, hbs.out, hD.out], by rw [hts.out, hbs.out]; exact hS.os 2 rfl, fun k hk => (hS.own _ (List.mem_of_getElem? (i := 2) rfl) k hk).resolve_left (fun h => h), hS.bel⟩
end Go.Proofs.YtlikinglgegclaaDoor
/- Literals of two, of three. -/
namespace Go.Cour
open Go.RowKit
/-- A literal of 2. -/
theorem hs_lit2 {P : Program} {ops : Array Oper} {rest : List Oper} {o : Oper} {a : Act} {w w0 : World} {Q : Exit → Act → World → Prop} {F : Nat → Prop} {L : List Ent} (hS : HS F w0 w L) (hw : Region.wanted o (yielded ops a.tmps) = true) (t e : TypeId) (x0 x1 : Operand) (ho : o.op = .buildSlice t 2 #[(0, x0), (1, x1)])
    (hu : P.underlying t = some (.slice e)) (hf : (P.info? e).map (·.size) = some 1) (hz : (((P.info? e).bind (·.zero)).map (·.cells.size)) = some 1) (v0 v1 : Value) (hv0 : a.eval x0 = v0) (hv1 : a.eval x1 = v1) (q0 : v0.oneCell' = true) (q1 : v1.oneCell' = true) (d : Option Tmp) (hd : o.dst = d)
    (h : ∀ g w', w.heap.size = g → Below w.heap.size w w' → HS F w0 w' (.os e (.slice (some ⟨g, 0, none⟩) 2 2) [v0, v1] :: L) → wpList P ops Q rest (a.put d (.slice (some ⟨g, 0, none⟩) 2 2)) w') : wpList P ops Q (o :: rest) a w := by
  subst hd
  have hB : Below w.heap.size w (w.alloc (.cells (#[v0, v1] : Array Value) e)) := (Below.refl _ _).alloc (Nat.le_refl _) _
  have hb : Blk (w.alloc (.cells (#[v0, v1] : Array Value) e)) w.heap.size e [v0, v1] := Blk.new w e [v0, v1]
  have h2 := h w.heap.size _ rfl hB (hS.push hB (.os e (.slice (some ⟨w.heap.size, 0, none⟩) 2 2) [v0, v1]) (OwnS.ofBlk hb (by unfold maxLen; simp)) (fun k hk => Nat.le_of_eq (by simpa [Ent.os, Value.ownBlock] using hk)))
  have hc0 : v0.cells = #[v0] := by cases v0 <;> first | rfl | cases q0
  have hc1 : v1.cells = #[v1] := by cases v1 <;> first | rfl | cases q1
  cases hie : P.info? e with
  | none => simp [hie] at hf
  | some ie =>
    have hsz : ie.size = 1 := by simpa [hie] using hf
    cases hzz : ie.zero with
    | none => simp [hie, hzz] at hz
    | some z =>
      have hz1 : z.cells.size = 1 := by simpa [hie, hzz] using hz
      refine wpList_step fun K hK => ?_
      rw [if_pos hw]
      refine wp_buildSlice t e 2 #[(0, x0), (1, x1)] ho #[v0, v1] ie z hu hie hzz (by rw [hsz]; decide) (by rw [hsz]; decide) ?_ (hK _ _ h2)
      have e1 : ∀ xs : Array Value, xs.size = 2 → ((xs.setIfInBounds 0 v0).setIfInBounds 1 v1) = #[v0, v1] := fun xs hx => by
        rcases xs with ⟨l⟩
        match l, hx with
        | [y0, y1], _ => rfl
      simp [hsz, hv0, hv1, Instr.fill, hc0, hc1, e1]
/-- A literal of 3. -/
theorem hs_lit3 {P : Program} {ops : Array Oper} {rest : List Oper} {o : Oper} {a : Act} {w w0 : World} {Q : Exit → Act → World → Prop} {F : Nat → Prop} {L : List Ent} (hS : HS F w0 w L) (hw : Region.wanted o (yielded ops a.tmps) = true) (t e : TypeId) (x0 x1 x2 : Operand) (ho : o.op = .buildSlice t 3 #[(0, x0), (1, x1), (2, x2)])
    (hu : P.underlying t = some (.slice e)) (hf : (P.info? e).map (·.size) = some 1) (hz : (((P.info? e).bind (·.zero)).map (·.cells.size)) = some 1) (v0 v1 v2 : Value) (hv0 : a.eval x0 = v0) (hv1 : a.eval x1 = v1) (hv2 : a.eval x2 = v2) (q0 : v0.oneCell' = true) (q1 : v1.oneCell' = true) (q2 : v2.oneCell' = true) (d : Option Tmp) (hd : o.dst = d)
    (h : ∀ g w', w.heap.size = g → Below w.heap.size w w' → HS F w0 w' (.os e (.slice (some ⟨g, 0, none⟩) 3 3) [v0, v1, v2] :: L) → wpList P ops Q rest (a.put d (.slice (some ⟨g, 0, none⟩) 3 3)) w') : wpList P ops Q (o :: rest) a w := by
  subst hd
  have hB : Below w.heap.size w (w.alloc (.cells (#[v0, v1, v2] : Array Value) e)) := (Below.refl _ _).alloc (Nat.le_refl _) _
  have hb : Blk (w.alloc (.cells (#[v0, v1, v2] : Array Value) e)) w.heap.size e [v0, v1, v2] := Blk.new w e [v0, v1, v2]
  have h2 := h w.heap.size _ rfl hB (hS.push hB (.os e (.slice (some ⟨w.heap.size, 0, none⟩) 3 3) [v0, v1, v2]) (OwnS.ofBlk hb (by unfold maxLen; simp)) (fun k hk => Nat.le_of_eq (by simpa [Ent.os, Value.ownBlock] using hk)))
  have hc0 : v0.cells = #[v0] := by cases v0 <;> first | rfl | cases q0
  have hc1 : v1.cells = #[v1] := by cases v1 <;> first | rfl | cases q1
  have hc2 : v2.cells = #[v2] := by cases v2 <;> first | rfl | cases q2
  cases hie : P.info? e with
  | none => simp [hie] at hf
  | some ie =>
    have hsz : ie.size = 1 := by simpa [hie] using hf
    cases hzz : ie.zero with
    | none => simp [hie, hzz] at hz
    | some z =>
      have hz1 : z.cells.size = 1 := by simpa [hie, hzz] using hz
      refine wpList_step fun K hK => ?_
      rw [if_pos hw]
      refine wp_buildSlice t e 3 #[(0, x0), (1, x1), (2, x2)] ho #[v0, v1, v2] ie z hu hie hzz (by rw [hsz]; decide) (by rw [hsz]; decide) ?_ (hK _ _ h2)
      have e1 : ∀ xs : Array Value, xs.size = 3 → (((xs.setIfInBounds 0 v0).setIfInBounds 1 v1).setIfInBounds 2 v2) = #[v0, v1, v2] := fun xs hx => by
        rcases xs with ⟨l⟩
        match l, hx with
        | [y0, y1, y2], _ => rfl
      simp [hsz, hv0, hv1, hv2, Instr.fill, hc0, hc1, hc2, e1]
end Go.Cour
/- math/bits.Len, by the library's contract (the table of numbers written out). -/
namespace Go.Proofs.YtlikinglgegclaaDoor
open Go.Shelf
def lenRen : Ren where
  f := fun x => match x with
    | 125 => 87
    | 128 => 97
    | 129 => 98
    | n => n
  t := fun x => match x with
    | 46 => 82
    | 3 => 3
    | 51 => 29
    | 53 => 87
    | 4 => 4
    | 5 => 5
    | 9 => 9
    | n => n
  g := fun n => n
theorem lenLays : Lays.n125 Tryd.prog lenRen where
  mixed := by kernel_rfl
  f125 := Eq.trans Tryd.func87 (congrArg some (by kernel_rfl))
  f128 := Eq.trans Tryd.func97 (congrArg some (by kernel_rfl))
  f129 := Eq.trans Tryd.func98 (congrArg some (by kernel_rfl))
  t3 := Tryd.underlying3
  a3 := Tryd.isAgg3
  z3 := Tryd.sizeOf3
  v3 := Tryd.zeroValue3
  t4 := Tryd.underlying4
  a4 := Tryd.isAgg4
  z4 := Tryd.sizeOf4
  v4 := Tryd.zeroValue4
  t5 := Tryd.underlying5
  a5 := Tryd.isAgg5
  z5 := Tryd.sizeOf5
  v5 := Tryd.zeroValue5
  t9 := Tryd.underlying9
  a9 := Tryd.isAgg9
  z9 := Tryd.sizeOf9
  v9 := Tryd.zeroValue9
  t46 := Tryd.underlying82
  a46 := Tryd.isAgg82
  z46 := Tryd.sizeOf82
  v46 := Tryd.zeroValue82
  t51 := Tryd.underlying29
  a51 := Tryd.isAgg29
  z51 := Tryd.sizeOf29
  v51 := Tryd.zeroValue29
  t53 := Tryd.underlying87
  a53 := Tryd.isAgg87
  z53 := Tryd.sizeOf87
  v53 := Tryd.zeroValue87
theorem lenS_calls (x : Int) (w : World) (h0 : 0 ≤ x) (h1 : x ≤ 18446744073709551615) :
    Calls Tryd.prog 87 #[.int .u64 x] w fun e w' => e = .returned (.int .i64 (Lib.bitLen x.toNat)) ∧ w' = w := Any.bits_Len lenLays x w h0 h1
end Go.Proofs.YtlikinglgegclaaDoor
/- The program's tree: Leaf, Node, Split, Root. -/
namespace Go.Proofs.YtlikinglgegclaaDoor
open Go.RowKit Go.Cour
theorem undLB2 : Tryd.prog.underlying 83 = some (.slice 24) := by kernel_rfl
theorem sizeBytes2 : (Tryd.prog.info? 24).map (·.size) = some 1 := by kernel_rfl
theorem zeroBytes2 : (((Tryd.prog.info? 24).bind (·.zero)).map (·.cells.size)) = some 1 := by kernel_rfl
/-- Texts that stand in a literal. -/
theorem rdL_of {w : World} {g : Nat} {vs : List Value} {bss : List (List Int)} (hc : ∀ (i : Nat) (u : Value), vs[i]? = some u → w.cell? ⟨g, i, none⟩ = some u) (hp : ∀ (i : Nat) (bs : List Int), bss[i]? = some bs → ∃ (Ai : Option Addr) (ni ci : Nat), vs[i]? = some (Value.slice Ai ni ci) ∧ bs.length = ni ∧ ni ≤ ci ∧ Rd w Ai .u8 bs) : RdL w (some ⟨g, 0, none⟩) bss := by
  refine .inr ⟨g, 0, rfl, fun i bs hi => ?_⟩
  obtain ⟨Ai, ni, ci, h1, h2, h3, h4⟩ := hp i bs hi
  exact ⟨Ai, ni, ci, by rw [Nat.zero_add]; exact hc i _ h1, h2, h3, h4⟩
theorem os_cells {w : World} {g n c : Nat} {e : TypeId} {vs : List Value} (h : OwnS w e (.slice (some ⟨g, 0, none⟩) n c) vs) : ∀ (i : Nat) (u : Value), vs[i]? = some u → w.cell? ⟨g, i, none⟩ = some u := fun i u hi => by
  obtain ⟨A', c', hv, _, _, _, _, hcell⟩ := h.parts
  obtain ⟨g', off, hA, hc⟩ := hcell i u hi
  injection hv with e1 _ _
  rw [hA] at e1
  injection e1 with e1; injection e1 with e2 e3
  subst e2 e3
  rwa [Nat.zero_add] at hc
theorem two_list {w : World} {vs : List Value} {A B : Option Addr} {i n c m d : Nat} {xs ys bs : List Int} (hi : [xs, ys][i]? = some bs) (hv : vs = [.slice A n c, .slice B m d]) (hn : xs.length = n ∧ n ≤ c) (hx : Rd w A .u8 xs) (hm : ys.length = m) (hmd : m ≤ d) (hy : Rd w B .u8 ys) :
    ∃ (Ai : Option Addr) (ni ci : Nat), vs[i]? = some (.slice Ai ni ci) ∧ bs.length = ni ∧ ni ≤ ci ∧ Rd w Ai .u8 bs := by
  subst hv
  match i, hi with
  | 0, hi => simp at hi; subst hi; exact ⟨A, n, c, rfl, hn.1, hn.2, hx⟩
  | 1, hi => simp at hi; subst hi; exact ⟨B, m, d, rfl, hm, hmd, hy⟩
  | i + 2, hi => simp at hi
theorem three_list {w : World} {vs : List Value} {A B C : Option Addr} {i n c m d k f : Nat} {xs ys zs bs : List Int} (hi : [xs, ys, zs][i]? = some bs) (hv : vs = [.slice A n c, .slice B m d, .slice C k f]) (hn : xs.length = n ∧ n ≤ c) (hx : Rd w A .u8 xs) (hm : ys.length = m) (hmd : m ≤ d) (hy : Rd w B .u8 ys) (hk : zs.length = k) (hkf : k ≤ f) (hz : Rd w C .u8 zs) :
    ∃ (Ai : Option Addr) (ni ci : Nat), vs[i]? = some (.slice Ai ni ci) ∧ bs.length = ni ∧ ni ≤ ci ∧ Rd w Ai .u8 bs := by
  subst hv
  match i, hi with
  | 0, hi => simp at hi; subst hi; exact ⟨A, n, c, rfl, hn.1, hn.2, hx⟩
  | 1, hi => simp at hi; subst hi; exact ⟨B, m, d, rfl, hm, hmd, hy⟩
  | 2, hi => simp at hi; subst hi; exact ⟨C, k, f, rfl, hk, hkf, hz⟩
  | i + 3, hi => simp at hi
theorem two_B8 {x : Int} {ys : List Int} (hx : B8 x) (hy : ∀ y ∈ ys, B8 y) : ∀ bs ∈ [[x], ys], ∀ z ∈ bs, B8 z := fun bs hb z hz => by
  simp only [List.mem_cons, List.not_mem_nil, or_false] at hb
  rcases hb with rfl | rfl
  · simp at hz; exact hz ▸ hx
  · exact hy z hz
theorem three_B8 {x : Int} {ys zs : List Int} (hx : B8 x) (hy : ∀ y ∈ ys, B8 y) (hz0 : ∀ y ∈ zs, B8 y) : ∀ bs ∈ [[x], ys, zs], ∀ z ∈ bs, B8 z := fun bs hb z hz => by
  simp only [List.mem_cons, List.not_mem_nil, or_false] at hb
  rcases hb with rfl | rfl | rfl
  · simp at hz; exact hz ▸ hx
  · exact hy z hz
  · exact hz0 z hz
set_option maxHeartbeats 1000000 in
set_option maxRecDepth 100000 in
theorem leafP_calls (xs : List Int) (A : Option Addr) (m c : Nat) (w : World) (hm : xs.length = m) (hmc : m ≤ c) (hr : Rd w A .u8 xs) (hx : ∀ x ∈ xs, B8 x) (hsz : m ≤ 900000) :
    Calls Tryd.prog 36 #[.slice A m c] w fun e w' => e = .returned (.agg (ints .u8 (leafOf xs)).toArray) ∧ Below w.heap.size w w' := by
  have HM := hid hm
  have HR := hid hr
  have HX := hid hx
  have hS := HS.start NoF w
  have hsz2 : m ≤ 900000 := hsz
  have HLL : Hd ((leafOf xs).length = 32) := hid (leafOf_length xs)
  have HFL : Hd (shaOf [[0], xs].flatten = leafOf xs) := hid (by simp [leafOf])
  obtain ⟨ds, hds⟩ : ∃ ds, Hd (leafOf xs = ds) := ⟨_, hid rfl⟩
  rw [hds.out] at HLL HFL
  clear hm hr hx
  go_enter Tryd.func36, Tryd.ntmps36
  go_wp2_with (first
    | (refine alloc_blk rfl 30 rfl _ rfl (ints .u8 (List.replicate 32 0)) zeroHashS ?_; intro g2 w2 hga hba hBa hsa; replace hS := hS.pushBlk hBa hba hga; clear hga hba hBa hsa)
    | (refine hs_one hS rfl 24 5 _ rfl undBytesS sizeU8S zeroU8S (.int .u8 0) rfl rfl _ rfl ?_; clear hS; intro go wo hgo hBo hS; clear hgo hBo)
    | (refine hs_lit2 hS rfl 83 24 _ _ rfl undLB2 sizeBytes2 zeroBytes2 (.slice (some ⟨go, 0, none⟩) 1 1) (.slice A m c) rfl rfl rfl rfl _ rfl ?_; clear hS; intro gl wl hgl hBl hS; clear hgl hBl)
    | (go_at_call 38; refine (shasum_calls [[0], xs] 2 2 (some ⟨gl, 0, none⟩) _ rfl (rdL_of (os_cells (hS.os 0 rfl)) (fun i bs hi => two_list hi rfl (by decide) ((hS.os 1 rfl).rd rfl) HM.out hmc (hS.oldRd HR.out (fun _ _ _ h => h)))) (two_B8 zero_B8 HX.out) (by simp [HM.out]; omega) (by decide)).mono ?_; rintro e w6 ⟨rfl, hB6⟩; replace hS := hS.below hB6; rw [HFL.out])
    | (refine hs_storeW hS 2 rfl rfl 30 _ _ rfl rfl (ints .u8 ds) rfl (ints_one' _ _) _ infoHashS (by simp [HLL.out]) (by simp) _ rfl ?_; clear hS; intro w9 hS)
    | fail)
  refine bodyPost_ret (results_blk rfl _ _ g2 _ _ 32 _ rfl (hS.blk 2 rfl) arrHashS (by simp [HLL.out]) infoHashS) rfl ⟨by rw [hds.out], hS.bel⟩
set_option maxHeartbeats 1000000 in
set_option maxRecDepth 100000 in
theorem nodeP_calls (l r : List Int) (w : World) (hl : l.length = 32) (hr : r.length = 32) (bl : ∀ x ∈ l, B8 x) (br : ∀ x ∈ r, B8 x) :
    Calls Tryd.prog 65 #[.agg (ints .u8 l).toArray, .agg (ints .u8 r).toArray] w fun e w' => e = .returned (.agg (ints .u8 (nodeOf l r)).toArray) ∧ Below w.heap.size w w' := by
  have HL := hid hl
  have HR := hid hr
  have BL := hid bl
  have BR := hid br
  have hS := HS.start NoF w
  have HLL : Hd ((nodeOf l r).length = 32) := hid (nodeOf_length l r)
  have HFL : Hd (shaOf [[1], l, r].flatten = nodeOf l r) := hid (by simp [nodeOf])
  obtain ⟨ds, hds⟩ : ∃ ds, Hd (nodeOf l r = ds) := ⟨_, hid rfl⟩
  rw [hds.out] at HLL HFL
  clear hl hr bl br
  go_enter Tryd.func65, Tryd.ntmps65
  go_wp2_with (first
    | (refine box_blk rfl 30 _ rfl _ rfl (ints .u8 l) rfl ?_; intro g2 w2 hga hba hBa hsa; replace hS := hS.pushBlk hBa hba hga; clear hga hba hBa hsa)
    | (refine box_blk rfl 30 _ rfl _ rfl (ints .u8 r) rfl ?_; intro g3 w3 hga hba hBa hsa; replace hS := hS.pushBlk hBa hba hga; clear hga hba hBa hsa)
    | (refine alloc_blk rfl 30 rfl _ rfl (ints .u8 (List.replicate 32 0)) zeroHashS ?_; intro g4 w4 hga hba hBa hsa; replace hS := hS.pushBlk hBa hba hga; clear hga hba hBa hsa)
    | fail)
  try go_wp2_with fail
  refine wp_region_S (F := NoF) (w0 := w) (L0 := [ZH g4, .blk g3 30 (ints .u8 r), .blk g2 30 (ints .u8 l)]) [] [0, 3, 4, 5]
    (fun iK u E => match iK with
      | _ => False)
    ([]) (by kernel_rfl) (by kernel_rfl) hS ?_
  show wpS _ _ _ _ _ _ _ _ _ _ [0, 1, 2, 3, 4, 5] _
  refine wpS_hard (i := 0) rfl rfl ?_ -- Op.buildSlice 24 1 #[(0, const (1:u8))]
  intro w0 hT
  simp only [List.getElem_toArray, List.getElem_cons_zero, List.getElem_cons_succ]
  go_wp2_with (first
    | (refine hs_one hT rfl 24 5 _ rfl undBytesS sizeU8S zeroU8S (.int .u8 1) rfl rfl _ rfl ?_; clear hT; intro go wo hgo hBo hT)
    | fail)
  refine HardP.mk' ([.os 5 (.slice (some ⟨go, 0, none⟩) 1 1) (ints .u8 [1])]) rfl ?_ ?_
  · exact hT
  clear hT
  clear hgo hBo
  apply wpS_read (i := 1) rfl rfl ⟨_, hS⟩ rfl -- Op.slice 30 t2 none none none
  · intro w' hT'
    simp only [List.getElem_toArray, List.getElem_cons_zero, List.getElem_cons_succ]
    go_wp2_with fail
    first | exact ⟨rfl, rfl, rfl⟩ | rfl
  apply wpS_read (i := 2) rfl rfl ⟨_, hS⟩ rfl -- Op.slice 30 t3 none none none
  · intro w' hT'
    simp only [List.getElem_toArray, List.getElem_cons_zero, List.getElem_cons_succ]
    go_wp2_with fail
    first | exact ⟨rfl, rfl, rfl⟩ | rfl
  refine wpS_hard (i := 3) rfl rfl ?_ -- Op.buildSlice 89 3 #[(0, t5), (1, t6), (2, t7)]
  intro w3 hT
  replace hT : HS NoF w w3 [.os 5 (.slice (some ⟨go, 0, none⟩) 1 1) (ints .u8 [1]), ZH g4, .blk g3 30 (ints .u8 r), .blk g2 30 (ints .u8 l)] := hT
  simp only [List.getElem_toArray, List.getElem_cons_zero, List.getElem_cons_succ]
  go_wp2_with (first
    | (refine hs_lit3 hT rfl 83 24 _ _ _ rfl undLB2 sizeBytes2 zeroBytes2 (.slice (some ⟨go, 0, none⟩) 1 1) (.slice (some ⟨g2, 0, none⟩) 32 32) (.slice (some ⟨g3, 0, none⟩) 32 32) rfl rfl rfl rfl rfl rfl _ rfl ?_; clear hT; intro gl wl hgl hBl hT)
    | fail)
  refine HardP.mk' ([.os 24 (.slice (some ⟨gl, 0, none⟩) 3 3) [.slice (some ⟨go, 0, none⟩) 1 1, .slice (some ⟨g2, 0, none⟩) 32 32, .slice (some ⟨g3, 0, none⟩) 32 32], .os 5 (.slice (some ⟨go, 0, none⟩) 1 1) (ints .u8 [1])]) rfl ?_ ?_
  · exact hT
  clear hT
  clear hgl hBl
  refine wpS_hard (i := 4) rfl rfl ?_ -- Op.call { value (Operand.func 42), args := #[t8], argTypes := #[89] 
  intro w4 hT
  replace hT : HS NoF w w4 [.os 24 (.slice (some ⟨gl, 0, none⟩) 3 3) [.slice (some ⟨go, 0, none⟩) 1 1, .slice (some ⟨g2, 0, none⟩) 32 32, .slice (some ⟨g3, 0, none⟩) 32 32], .os 5 (.slice (some ⟨go, 0, none⟩) 1 1) (ints .u8 [1]), ZH g4, .blk g3 30 (ints .u8 r), .blk g2 30 (ints .u8 l)] := hT
  simp only [List.getElem_toArray, List.getElem_cons_zero, List.getElem_cons_succ]
  go_wp2_with (first
    | (go_at_call 38; refine (shasum_calls [[1], l, r] 3 3 (some ⟨gl, 0, none⟩) _ rfl (rdL_of (os_cells (hT.os 0 rfl)) (fun i bs hi => three_list hi rfl (by decide) ((hT.os 1 rfl).rd rfl) HL.out (by decide) (Blk.rdA (hT.blk 4 rfl)) HR.out (by decide) (Blk.rdA (hT.blk 3 rfl)))) (three_B8 one_B8 BL.out BR.out) (by simp [HL.out, HR.out]) (by decide)).mono ?_; rintro e wq ⟨rfl, hB6⟩; replace hT := hT.below hB6; rw [HFL.out])
    | fail)
  refine HardP.mk' ([.os 24 (.slice (some ⟨gl, 0, none⟩) 3 3) [.slice (some ⟨go, 0, none⟩) 1 1, .slice (some ⟨g2, 0, none⟩) 32 32, .slice (some ⟨g3, 0, none⟩) 32 32], .os 5 (.slice (some ⟨go, 0, none⟩) 1 1) (ints .u8 [1])]) rfl ?_ ?_
  · exact hT
  clear hT
  refine wpS_tot (i := 5) rfl rfl (by kernel_rfl) ?_ -- Op.store 30 t4 t9
  intro w5 hT
  replace hT : HS NoF w w5 [.os 24 (.slice (some ⟨gl, 0, none⟩) 3 3) [.slice (some ⟨go, 0, none⟩) 1 1, .slice (some ⟨g2, 0, none⟩) 32 32, .slice (some ⟨g3, 0, none⟩) 32 32], .os 5 (.slice (some ⟨go, 0, none⟩) 1 1) (ints .u8 [1]), ZH g4, .blk g3 30 (ints .u8 r), .blk g2 30 (ints .u8 l)] := hT
  simp only [List.getElem_toArray, List.getElem_cons_zero, List.getElem_cons_succ]
  go_wp2_with (first
    | ((refine hs_storeW hT 2 rfl rfl 30 _ _ rfl rfl (ints .u8 ds) rfl (ints_one' _ _) _ infoHashS (by simp [HLL.out]) (by simp) _ rfl ?_; clear hT; intro w9 hT))
    | fail)
  refine TotP.mk' ([.os 24 (.slice (some ⟨gl, 0, none⟩) 3 3) [.slice (some ⟨go, 0, none⟩) 1 1, .slice (some ⟨g2, 0, none⟩) 32 32, .slice (some ⟨g3, 0, none⟩) 32 32], .os 5 (.slice (some ⟨go, 0, none⟩) 1 1) (ints .u8 [1]), .blk g4 30 (ints .u8 ds), .blk g3 30 (ints .u8 r), .blk g2 30 (ints .u8 l)]) rfl ?_ ?_
  · exact hT
  clear hT
  refine wpS_end ?_
  intro wz hT
  try dsimp only
  clear hS
  have hS : HS NoF w wz [.os 24 (.slice (some ⟨gl, 0, none⟩) 3 3) [.slice (some ⟨go, 0, none⟩) 1 1, .slice (some ⟨g2, 0, none⟩) 32 32, .slice (some ⟨g3, 0, none⟩) 32 32], .os 5 (.slice (some ⟨go, 0, none⟩) 1 1) (ints .u8 [1]), .blk g4 30 (ints .u8 ds), .blk g3 30 (ints .u8 r), .blk g2 30 (ints .u8 l)] := hT
  clear hT
  go_wp2_with fail
  refine bodyPost_ret (results_blk rfl _ _ g4 _ _ 32 _ rfl (hS.blk 2 rfl) arrHashS (by simp [HLL.out]) infoHashS) rfl ⟨by rw [hds.out], hS.bel⟩
theorem split_bits : ∀ n, n < 1025 → 2 ≤ n → splitOf n = 2 ^ (Lib.bitLen (n - 1) - 1) ∧ 1 ≤ Lib.bitLen (n - 1) ∧ Lib.bitLen (n - 1) ≤ 10 := by
  have h : ((List.range 1025).all fun n => decide (n < 2) || (decide (splitOf n = 2 ^ (Lib.bitLen (n - 1) - 1)) && decide (1 ≤ Lib.bitLen (n - 1)) && decide (Lib.bitLen (n - 1) ≤ 10))) = true := by kernel_rfl
  intro n hn h2
  have := List.all_eq_true.1 h n (List.mem_range.2 hn)
  simp at this
  omega
theorem wrap_pow : ∀ b : Nat, b < 11 → 1 ≤ b → wrap64 (2 ^ (b - 1)) = ((2 ^ (b - 1) : Nat) : Int) := by decide +kernel
set_option maxHeartbeats 1000000 in
set_option maxRecDepth 100000 in
theorem splitP_calls (n : Nat) (w : World) (h2 : 2 ≤ n) (hn : n ≤ 1000) : Calls Tryd.prog 64 #[.int .i64 (n : Int)] w fun e w' => e = .returned (.int .i64 (splitOf n : Nat)) ∧ w' = w := by
  obtain ⟨hs, hb1, hb2⟩ := split_bits n (by omega) h2
  have HS' := hid hs
  clear hs
  obtain ⟨b, hb⟩ : ∃ b, Hd (Lib.bitLen (n - 1) = b) := ⟨_, hid rfl⟩
  rw [hb.out] at HS' hb1 hb2
  have HL := hid (fun w => lenS_calls ((n - 1 : Nat) : Int) w (by omega) (by omega))
  rw [Int.toNat_natCast, hb.out] at HL
  have hlt : ¬ (n : Int) < 2 := by omega
  have hnn : ((n : Int) - 1) = ((n - 1 : Nat) : Int) := by omega
  obtain ⟨q, hq⟩ : ∃ q, n - 1 = q := ⟨_, rfl⟩
  rw [hq] at HL hnn
  go_enter Tryd.func64, Tryd.ntmps64
  go_wp2_with (first
    | (go_at_call 87; refine (HL.out _).mono ?_; rintro e w6 ⟨rfl, rfl⟩)
    | fail)
  go_ret
  exact ⟨by rw [HS'.out]; first | (have := wrap_pow b (by omega) hb1; simp_all) | (trace_state; go_num), rfl⟩
set_option maxHeartbeats 1000000 in
set_option maxRecDepth 100000 in
theorem rootP_calls : ∀ (f : Nat) (hss : List (List Int)) (A : Option Addr) (n c : Nat) (w : World) (_ : hss.length = n) (_ : n ≤ f) (_ : HRd w A hss) (_ : H32 hss) (_ : n ≤ c) (_ : n ≤ 1000),
    Calls Tryd.prog 37 #[.slice A n c] w fun e w' => e = .returned (.agg (ints .u8 (rootF f hss)).toArray) ∧ Below w.heap.size w w' := by
  intro f
  induction f with
  | zero =>
    intro hss A n c w hl hf hr h32 hc hn
    obtain rfl : n = 0 := by omega
    have hS := HS.start NoF w
    clear hl hf hr h32 hc hn
    have HSL : Hd ((shaOf []).length = 32) := hid (shaOf_length [])
    obtain ⟨ds, hds⟩ : ∃ ds, Hd (shaOf [] = ds) := ⟨_, hid rfl⟩
    rw [hds.out] at HSL
    go_enter Tryd.func37, Tryd.ntmps37
    go_wp2_with (first
      | (refine alloc_blk rfl 30 rfl _ rfl (ints .u8 (List.replicate 32 0)) zeroHashS ?_; intro g2 w2 hga hba hBa hsa; replace hS := hS.pushBlk hBa hba hga; clear hga hba hBa hsa)
      | (go_at_call 38; refine (shasum_calls [] 0 0 none _ rfl (.inl rfl) (fun _ h => by cases h) (by simp) (by decide)).mono ?_; rintro e w6 ⟨rfl, hB6⟩; replace hS := hS.below hB6; rw [show shaOf ([] : List (List Int)).flatten = ds from hds.out])
      | (refine hs_storeW hS 0 rfl rfl 30 _ _ rfl rfl (ints .u8 ds) rfl (ints_one' _ _) _ infoHashS (by simp [HSL.out]) (by simp) _ rfl ?_; clear hS; intro w9 hS)
      | fail)
    refine bodyPost_ret (results_blk rfl _ _ g2 _ _ 32 _ rfl (hS.blk 0 rfl) arrHashS (by simp [HSL.out]) infoHashS) rfl ⟨by unfold rootF; rw [hds.out], hS.bel⟩
  | succ f ih =>
    intro hss A n c w hl hf hr h32 hc hn
    by_cases h0 : n = 0
    · subst h0
      have hS := HS.start NoF w
      have hR : Hd (rootF (f + 1) hss = shaOf []) := hid (by unfold rootF; rw [if_pos hl])
      clear hl hf hr h32 hc hn
      have HSL : Hd ((shaOf []).length = 32) := hid (shaOf_length [])
      obtain ⟨ds, hds⟩ : ∃ ds, Hd (shaOf [] = ds) := ⟨_, hid rfl⟩
      rw [hds.out] at HSL hR
      rw [hR.out]
      go_enter Tryd.func37, Tryd.ntmps37
      go_wp2_with (first
        | (refine alloc_blk rfl 30 rfl _ rfl (ints .u8 (List.replicate 32 0)) zeroHashS ?_; intro g2 w2 hga hba hBa hsa; replace hS := hS.pushBlk hBa hba hga; clear hga hba hBa hsa)
        | (go_at_call 38; refine (shasum_calls [] 0 0 none _ rfl (.inl rfl) (fun _ h => by cases h) (by simp) (by decide)).mono ?_; rintro e w6 ⟨rfl, hB6⟩; replace hS := hS.below hB6; rw [show shaOf ([] : List (List Int)).flatten = ds from hds.out])
        | (refine hs_storeW hS 0 rfl rfl 30 _ _ rfl rfl (ints .u8 ds) rfl (ints_one' _ _) _ infoHashS (by simp [HSL.out]) (by simp) _ rfl ?_; clear hS; intro w9 hS)
        | fail)
      refine bodyPost_ret (results_blk rfl _ _ g2 _ _ 32 _ rfl (hS.blk 0 rfl) arrHashS (by simp [HSL.out]) infoHashS) rfl ⟨rfl, hS.bel⟩
    · by_cases h1 : n = 1
      · subst h1
        have hS := HS.start NoF w
        obtain ⟨x, rfl⟩ := List.length_eq_one_iff.1 hl
        have HXL : Hd (x.length = 32) := hid (h32 x (by simp)).1
        have hR : Hd (rootF (f + 1) [x] = x) := hid rfl
        rw [hR.out]
        obtain ⟨g, o, rfl, hcell⟩ : ∃ g o, A = some ⟨g, o, none⟩ ∧ ∀ j v, (ints .u8 x)[j]? = some v → w.cell? ⟨g, o + j, none⟩ = some v := by
          rcases hr with h | ⟨g, o, h1, h2⟩
          · cases h
          · exact ⟨g, o, h1, fun j v hj => by have := h2 0 x j v rfl hj; rwa [Nat.zero_mul, Nat.add_zero] at this⟩
        have HC := hid hcell
        clear hl hf hr h32 hn h0 hcell hR
        go_enter Tryd.func37, Tryd.ntmps37
        go_wp2_with (first
          | (refine alloc_blk rfl 30 rfl _ rfl (ints .u8 (List.replicate 32 0)) zeroHashS ?_; intro g2 w2 hga hba hBa hsa; replace hS := hS.pushBlk hBa hba hga; clear hga hba hBa hsa)
          | (refine load_in rfl 30 _ rfl g o rfl (ints .u8 x) (fun j v hj => hS.oldCell (HC.out j v hj) (fun h => h)) 32 5 arrHashS (by simp [HXL.out]) infoHashS ?_)
          | (refine hs_storeW hS 0 rfl rfl 30 _ _ rfl rfl (ints .u8 x) rfl (ints_one' _ _) _ infoHashS (by simp [HXL.out]) (by simp) _ rfl ?_; clear hS; intro w9 hS)
          | fail)
        refine bodyPost_ret (results_blk rfl _ _ g2 _ _ 32 _ rfl (hS.blk 0 rfl) arrHashS (by simp [HXL.out]) infoHashS) rfl ⟨rfl, hS.bel⟩
      · have hS := HS.start NoF w
        have hp := splitOf_pos (n := n) (by omega)
        have hR : Hd (rootF (f + 1) hss = nodeOf (rootF f (hss.take (splitOf n))) (rootF f (hss.drop (splitOf n)))) := hid (by
          conv => lhs; unfold rootF
          rw [hl, if_neg h0, if_neg h1])
        obtain ⟨g, o, rfl⟩ : ∃ g o, A = some ⟨g, o, none⟩ := by
          rcases hr with h | ⟨g, o, h1, _⟩
          · subst h; simp at hl; omega
          · exact ⟨g, o, h1⟩
        have HS1 := hid (rootF_H32 f _ (h32.take (splitOf n)))
        have HS2 := hid (rootF_H32 f _ (h32.drop (splitOf n)))
        have hsp := splitP_calls n
        obtain ⟨k, hk⟩ : ∃ k, splitOf n = k := ⟨_, rfl⟩
        rw [hk] at hR HS1 HS2 hp hsp
        have HR1 := hid (hr.take k)
        have HR2 := hid (hr.drop k)
        have H1 := hid (h32.take k)
        have H2 := hid (h32.drop k)
        have HL1 : Hd ((hss.take k).length = k) := hid (by rw [List.length_take]; omega)
        have HL2 : Hd ((hss.drop k).length = n - k) := hid (by rw [List.length_drop]; omega)
        rw [hR.out]
        generalize hss.take k = ls at *
        generalize hss.drop k = rs at *
        obtain ⟨X, hX⟩ : ∃ X, Hd (rootF f ls = X) := ⟨_, hid rfl⟩
        obtain ⟨Y, hY⟩ : ∃ Y, Hd (rootF f rs = Y) := ⟨_, hid rfl⟩
        rw [hX.out] at HS1
        rw [hY.out] at HS2
        rw [hX.out, hY.out]
        have HDL : Hd ((nodeOf X Y).length = 32) := hid (nodeOf_length X Y)
        obtain ⟨ds, hds⟩ : ∃ ds, Hd (nodeOf X Y = ds) := ⟨_, hid rfl⟩
        rw [hds.out] at HDL
        obtain ⟨d, hd⟩ : ∃ d, n - k = d := ⟨_, rfl⟩
        rw [hd] at HL2
        have HF := hid hf
        have HP := hid hp
        have HD := hid hd
        have HI := hid ih
        clear hl hr h32 hR hk hf ih hp hd
        have hn0 : ¬ (n : Int) = 0 := by omega
        have hn1 : ¬ (n : Int) = 1 := by omega
        have hn2 : 2 ≤ n := by omega
        go_enter Tryd.func37, Tryd.ntmps37
        go_wp2_with (first
          | (refine alloc_blk rfl 30 rfl _ rfl (ints .u8 (List.replicate 32 0)) zeroHashS ?_; intro g2 w2 hga hba hBa hsa; replace hS := hS.pushBlk hBa hba hga; clear hga hba hBa hsa)
          | (go_at_call 64; refine (hsp _ (by omega) (by omega)).mono ?_; rintro e w6 ⟨rfl, rfl⟩)
          | fail)
        try go_wp2_with fail
        refine wp_region_S (F := NoF) (w0 := w) (L0 := [ZH g2]) [3, 7, 8] [9]
          (fun iK u E => match iK with
            | 3 => u = .agg (ints .u8 X).toArray ∧ E = []
            | 7 => u = .agg (ints .u8 Y).toArray ∧ E = []
            | 8 => u = .agg (ints .u8 ds).toArray ∧ E = []
            | _ => False)
          ([]) (by kernel_rfl) (by kernel_rfl) hS ?_
        show wpS _ _ _ _ _ _ _ _ _ _ [0, 1, 2, 3, 4, 5, 6, 7, 8, 9] _
        apply wpS_read (i := 0) rfl rfl ⟨_, hS⟩ rfl -- Op.move t0
        · intro w' hT'
          simp only [List.getElem_toArray, List.getElem_cons_zero, List.getElem_cons_succ]
          go_wp2_with fail
          first | exact ⟨rfl, rfl, rfl⟩ | rfl
        apply wpS_read (i := 1) rfl rfl ⟨_, hS⟩ rfl -- Op.move t3
        · intro w' hT'
          simp only [List.getElem_toArray, List.getElem_cons_zero, List.getElem_cons_succ]
          go_wp2_with fail
          first | exact ⟨rfl, rfl, rfl⟩ | rfl
        apply wpS_read (i := 2) rfl rfl ⟨_, hS⟩ rfl -- Op.slice 40 t17 none (some t18) none
        · intro w' hT'
          simp only [List.getElem_toArray, List.getElem_cons_zero, List.getElem_cons_succ]
          go_wp2_with (first
            | (refine slice_hiS rfl _ _ 40 rfl 30 undLHashT 32 infoHashS g o n c k rfl rfl (by have := HP.out; omega) (by omega) _ rfl ?_)
            | (refine slice_loS rfl _ _ 40 rfl 30 undLHashT 32 infoHashS g o n c k d rfl rfl (by have := HP.out; omega) (by have := HP.out; omega) HD.out _ rfl ?_)
            | fail)
          first | exact ⟨rfl, rfl, rfl⟩ | rfl
        refine wpS_soft (i := 3) rfl rfl rfl (Nat.le_of_ble_eq_true rfl) ?_ ?_ -- Op.call { value (Operand.func 41), args := #[t19], argTypes := #[40]
        · intro w' hT
          simp only [List.getElem_toArray, List.getElem_cons_zero, List.getElem_cons_succ]
          go_wp2_with (first
            | (go_at_call 37; refine (HI.out ls (some ⟨g, o, none⟩) k c _ HL1.out (by have := HF.out; have := HP.out; omega) (HRd.oldS hT HR1.out) H1.out (by have := HP.out; omega) (by have := HP.out; omega)).mono ?_; rintro e w6 ⟨rfl, hB6⟩; rw [hX.out])
            | fail)
          exact SoftP.mk' (.agg (ints .u8 X).toArray) ([]) rfl (⟨rfl, rfl⟩) (hT.below hB6) (hB6) (fun _ h => by cases h)
        intro u3 E3 hK3
        obtain ⟨rfl, rfl⟩ := hK3
        simp only [Act.put, List.setIfInBounds_toArray, List.set_cons_zero, List.set_cons_succ]
        apply wpS_read (i := 4) rfl rfl ⟨_, hS⟩ rfl -- Op.move t0
        · intro w' hT'
          simp only [List.getElem_toArray, List.getElem_cons_zero, List.getElem_cons_succ]
          go_wp2_with fail
          first | exact ⟨rfl, rfl, rfl⟩ | rfl
        apply wpS_read (i := 5) rfl rfl ⟨_, hS⟩ rfl -- Op.move t3
        · intro w' hT'
          simp only [List.getElem_toArray, List.getElem_cons_zero, List.getElem_cons_succ]
          go_wp2_with fail
          first | exact ⟨rfl, rfl, rfl⟩ | rfl
        apply wpS_read (i := 6) rfl rfl ⟨_, hS⟩ rfl -- Op.slice 40 t21 (some t22) none none
        · intro w' hT'
          simp only [List.getElem_toArray, List.getElem_cons_zero, List.getElem_cons_succ]
          go_wp2_with (first
            | (refine slice_hiS rfl _ _ 40 rfl 30 undLHashT 32 infoHashS g o n c k rfl rfl (by have := HP.out; omega) (by omega) _ rfl ?_)
            | (refine slice_loS rfl _ _ 40 rfl 30 undLHashT 32 infoHashS g o n c k d rfl rfl (by have := HP.out; omega) (by have := HP.out; omega) HD.out _ rfl ?_)
            | fail)
          first | exact ⟨rfl, rfl, rfl⟩ | rfl
        refine wpS_soft (i := 7) rfl rfl rfl (Nat.le_of_ble_eq_true rfl) ?_ ?_ -- Op.call { value (Operand.func 41), args := #[t23], argTypes := #[40]
        · intro w' hT
          simp only [List.getElem_toArray, List.getElem_cons_zero, List.getElem_cons_succ]
          go_wp2_with (first
            | (go_at_call 37; refine (HI.out rs (some ⟨g, o + k * 32, none⟩) d (c - k) _ HL2.out (by have := HF.out; have := HP.out; have := HD.out; omega) (HRd.oldS hT HR2.out) H2.out (by have := HP.out; have := HD.out; omega) (by have := HP.out; have := HD.out; omega)).mono ?_; rintro e w6 ⟨rfl, hB6⟩; rw [hY.out])
            | fail)
          exact SoftP.mk' (.agg (ints .u8 Y).toArray) ([]) rfl (⟨rfl, rfl⟩) (hT.below hB6) (hB6) (fun _ h => by cases h)
        intro u7 E7 hK7
        obtain ⟨rfl, rfl⟩ := hK7
        simp only [Act.put, List.setIfInBounds_toArray, List.set_cons_zero, List.set_cons_succ]
        refine wpS_soft (i := 8) rfl rfl rfl (Nat.le_of_ble_eq_true rfl) ?_ ?_ -- Op.call { value (Operand.func 73), args := #[t20, t24], argTypes := 
        · intro w' hT
          simp only [List.getElem_toArray, List.getElem_cons_zero, List.getElem_cons_succ]
          go_wp2_with (first
            | (go_at_call 65; refine (nodeP_calls X Y _ HS1.out.1 HS2.out.1 HS1.out.2 HS2.out.2).mono ?_; rintro e w6 ⟨rfl, hB6⟩; rw [hds.out])
            | fail)
          exact SoftP.mk' (.agg (ints .u8 ds).toArray) ([]) rfl (⟨rfl, rfl⟩) (hT.below hB6) (hB6) (fun _ h => by cases h)
        intro u8 E8 hK8
        obtain ⟨rfl, rfl⟩ := hK8
        simp only [Act.put, List.setIfInBounds_toArray, List.set_cons_zero, List.set_cons_succ]
        refine wpS_tot (i := 9) rfl rfl (by kernel_rfl) ?_ -- Op.store 30 t2 t25
        intro w9 hT
        replace hT : HS NoF w w9 [ZH g2] := hT
        simp only [List.getElem_toArray, List.getElem_cons_zero, List.getElem_cons_succ]
        go_wp2_with (first
          | (refine hs_storeW hT 0 rfl rfl 30 _ _ rfl rfl (ints .u8 ds) rfl (ints_one' _ _) _ infoHashS (by simp [HDL.out]) (by simp) _ rfl ?_; clear hT; intro w9 hT)
          | fail)
        refine TotP.mk' ([.blk g2 30 (ints .u8 ds)]) rfl ?_ ?_
        · exact hT
        clear hT
        refine wpS_end ?_
        intro wz hT
        try dsimp only
        clear hS
        have hS : HS NoF w wz [.blk g2 30 (ints .u8 ds)] := hT
        clear hT
        go_wp2_with fail
        refine bodyPost_ret (results_blk rfl _ _ g2 _ _ 32 _ rfl (hS.blk 0 rfl) arrHashS (by simp [HDL.out]) infoHashS) rfl ⟨by rw [hds.out], hS.bel⟩
end Go.Proofs.YtlikinglgegclaaDoor
