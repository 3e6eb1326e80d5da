import Derived.Laws.AppendOwnNone
import Derived.Deep.MidRow
import Derived.Test.YtenjpmegnjdobaaDoorMgSB0
import Derived.Test.YtenjpmegnjdobaaDoorMgSB1
import Derived.Test.YtenjpmegnjdobaaDoorMgSB2
import Derived.Test.YtenjpmegnjdobaaDoorMgSB3
set_option linter.unusedSimpArgs false
set_option linter.unusedVariables false
/- The reference's seal and its opening. -/
namespace Go.Proofs.YtenjpmegnjdobaaDoor
open Go.RowKit Go.Cour
theorem gap_ltR (n : Nat) : gap n < 16 := Nat.mod_lt _ (by decide)
theorem padTo_lenR (xs b : List Int) : (padTo xs b).length = xs.length + b.length + gap b.length := by simp [padTo]; omega
theorem padTo_modR (xs b : List Int) (hx : xs.length % 16 = 0) : (padTo xs b).length % 16 = 0 := by
  rw [padTo_lenR]; unfold gap; omega
theorem snoc_zeroR (xs : List Int) (j : Nat) : xs ++ List.replicate j 0 ++ [0] = xs ++ List.replicate (j + 1) (0 : Int) := by
  rw [List.append_assoc, List.replicate_succ']
def onceTo (S : List Int) (i : Nat) : List Int := S.take i ++ List.replicate (32 - i) 0
theorem onceTo_length (S : List Int) (i : Nat) (h : i ≤ 32) (hs : 32 ≤ S.length) : (onceTo S i).length = 32 := by simp [onceTo]; omega
theorem onceTo_set (S : List Int) (i : Nat) (h : i < 32) (hs : 32 ≤ S.length) : (onceTo S i).set i (rd S i) = onceTo S (i + 1) := by
  have hl : (S.take i).length = i := by rw [List.length_take]; omega
  unfold onceTo
  rw [List.set_append_right _ _ (by omega), hl, Nat.sub_self, show 32 - i = (32 - (i + 1)) + 1 by omega, List.replicate_succ, List.set_cons_zero, List.take_add_one, List.append_assoc]
  congr 1
  have hlx : i < S.length := by omega
  rw [List.getElem?_eq_getElem hlx]
  simp [rd, hlx]
theorem onceTo_all (S : List Int) : onceTo S 32 = S.take 32 := by simp [onceTo]
theorem bytesOk_app {xs ys : List Int} (hx : bytesOk xs) (hy : bytesOk ys) : bytesOk (xs ++ ys) := fun i => by
  rw [rd_app]
  split
  · exact hx _
  · exact hy _
theorem bytesOk_nil : bytesOk [] := fun i => by
  have : rd [] i = 0 := by unfold rd; rfl
  omega
theorem bytesOk_lenTo (n k : Nat) : bytesOk (lenTo n k) := fun i => by
  unfold lenTo rd
  rw [List.getD_eq_getElem?_getD, List.getElem?_map]
  cases (List.range k)[i]? with
  | none => simp
  | some j => simp only [Option.map_some, Option.getD_some]; exact ⟨Int.emod_nonneg _ (by decide), Int.emod_lt_of_pos _ (by decide)⟩
theorem bytesOk_padTo {xs ys : List Int} (hx : bytesOk xs) (hy : bytesOk ys) : bytesOk (padTo xs ys) := bytesOk_app (bytesOk_app hx hy) (bytesOk_zeros' _)
theorem bytesOk_tagText {ad b : List Int} (ha : bytesOk ad) (hb : bytesOk b) : bytesOk (tagText ad b) := bytesOk_app (bytesOk_app (bytesOk_padTo (bytesOk_padTo bytesOk_nil ha) hb) (bytesOk_lenTo _ _)) (bytesOk_lenTo _ _)
/-- What the blocks of a call hold. -/
structure TG (w wr : World) (g4 g5 g8 : Nat) (key nonce : List Int) : Prop where
  k : Blk wr g4 23 (ints .u8 key)
  n : Blk wr g5 47 (ints .u8 nonce)
  t : Blk wr g8 57 (ints .u8 (List.replicate 16 0))
  bel : Below w.heap.size w wr
theorem TG.below {w wr wx : World} {g4 g5 g8 : Nat} {key nonce : List Int} (h : TG w wr g4 g5 g8 key nonce) (hb : Below wr.heap.size wr wx) : TG w wx g4 g5 g8 key nonce :=
  ⟨h.k.belowAll hb, h.n.belowAll hb, h.t.belowAll hb, below_then h.bel h.bel.size hb⟩
theorem TG.other {w wr : World} {g4 g5 g8 g : Nat} {key nonce : List Int} (h : TG w wr g4 g5 g8 key nonce) (h4 : g4 < g) (h5 : g5 < g) (h8 : g8 < g) (hw : w.heap.size ≤ g) (cs : Array Value) : TG w (wr.setRow g cs) g4 g5 g8 key nonce :=
  ⟨h.k.setRowOther (by omega) _, h.n.setRowOther (by omega) _, h.t.setRowOther (by omega) _, below_setRow h.bel hw _⟩
theorem TG.otherC {w wr : World} {g4 g5 g8 g : Nat} {key nonce : List Int} (h : TG w wr g4 g5 g8 key nonce) (h4 : g4 < g) (h5 : g5 < g) (h8 : g8 < g) (hw : w.heap.size ≤ g) (i : Nat) (v : Value) : TG w (wr.setCell ⟨g, i, none⟩ v) g4 g5 g8 key nonce :=
  ⟨h.k.setOther (by simp; omega) _, h.n.setOther (by simp; omega) _, h.t.setOther (by simp; omega) _, h.bel.setCell (by simp; omega) _⟩
theorem TG.grown {w wr wx : World} {g4 g5 g8 B : Nat} {key nonce ts : List Int} {v : Value} (h : TG w wr g4 g5 g8 key nonce) (ho : Own wr B 5 .u8 v ts) (hg : wr.grownBy wx v.ownBlock) (h4 : g4 < B) (h5 : g5 < B) (h8 : g8 < B) (hw : w.heap.size ≤ B) : TG w wx g4 g5 g8 key nonce :=
  ⟨h.k.grown hg (fun he => ho.ne_lt h4 he.symm), h.n.grown hg (fun he => ho.ne_lt h5 he.symm), h.t.grown hg (fun he => ho.ne_lt h8 he.symm), ho.grown_below h.bel hg h.bel.size hw⟩
set_option maxHeartbeats 8000000 in
set_option maxRecDepth 100000 in
theorem tagged1_calls (key nonce ad b : List Int) (A A' : Option Addr) (c c' n n' : Nat) (w : World) (hk : key.length = 32) (hnl : nonce.length = 12) (rk : bytesOk key) (rn : bytesOk nonce)
    (hn : n = ad.length) (hr : Rd w A .u8 ad) (ra : bytesOk ad) (hn' : n' = b.length) (hA' : A' = none → c' = 0) (hr' : Rd w A' .u8 b) (rb : bytesOk b) (hla : ad.length ≤ 100000) (hlb : b.length ≤ 100000) :
    Calls Tryd.prog 35 #[.agg (ints .u8 key).toArray, .agg (ints .u8 nonce).toArray, .slice A n c, .slice A' n' c'] w fun e w' => e = .returned (.agg (ints .u8 (tagOf key nonce ad b)).toArray) ∧ Below w.heap.size w w' := by
  have HK := hid hk
  have HNL := hid hnl
  have HN := hid hn
  have HN' := hid hn'
  have HR := hid hr
  have HR' := hid hr'
  have hnb : n ≤ 100000 := by omega
  have hnb' : n' ≤ 100000 := by omega
  obtain ⟨S, hS⟩ : ∃ S, Hd (block key 0 nonce = S) := ⟨_, ⟨rfl⟩⟩
  have hSl : Hd (S.length = 64) := hid (by rw [← hS.out]; exact block_length _ _ _)
  have rS : bytesOk S := by rw [← hS.out]; exact block_ok _ _ _
  have hTG : Hd (tagT (S.take 32) (tagText ad b) = tagOf key nonce ad b) := hid (by
    rw [tagOf, hS.out]
    exact tagT_eq _ _ (by rw [List.length_take, hSl.out]; rfl) (bytesOk_take rS 32) (bytesOk_tagText ra rb))
  have rM : bytesOk (tagText ad b) := bytesOk_tagText ra rb
  clear hk hnl hn hn' hr hr'
  go_enter Tryd.func35, Tryd.ntmps35
  go_wp2_with (first
    | (refine box_blk rfl 23 _ rfl _ rfl (ints .u8 key) rfl ?_; intro g4 w1 hg4 hb4 hB1 hs1)
    | (refine box_blk rfl 47 _ rfl _ rfl (ints .u8 nonce) rfl ?_; intro g5 w2 hg5 hb5 hB2 hs2)
    | (refine alloc_blk rfl 57 rfl _ rfl (ints .u8 (List.replicate 16 0)) zeroT16 ?_; intro g8 w3 hg8 hb8 hB3 hs3
       have hz : Hd (w.heap.size ≤ g4 ∧ g4 < g5 ∧ g5 < g8) := hid (by omega)
       have hT : TG w w3 g4 g5 g8 key nonce := ⟨(hb4.belowAll hB2).belowAll hB3, hb5.belowAll hB3, hb8, below_then (below_then hB1 hB1.size hB2) (by omega) hB3⟩
       clear hg4 hb4 hB1 hs1 hg5 hb5 hB2 hs2 hg8 hb8 hB3 hs3)
    | (refine load_blk rfl 23 _ rfl g4 rfl 23 _ hT.k 32 5 arr23 (by simpa using HK.out) info23 ?_)
    | (refine load_blk rfl 47 _ rfl g5 rfl 47 _ hT.n 12 5 arr24 (by simpa using HNL.out) info24 ?_)
    | (go_at_call 43; refine (block1_calls key nonce 0 _ HK.out HNL.out rk rn (by omega)).mono ?_; rintro e w4 ⟨he4, hB4⟩; rw [hS.out] at he4; subst he4
       replace hT := hT.below hB4)
    | (refine alloc_blk rfl 61 rfl _ rfl (ints .u8 (List.replicate 64 0)) (by kernel_rfl) ?_; intro g9 w5 hg9 hb9 hB5 hs5)
    | (refine store_blk rfl 61 _ _ rfl g9 (ints .u8 S) rfl rfl 61 _ hb9 64 info44 (by simpa using hSl.out) (by simp) (ints_one _ _) ?_
       have hz9 : Hd (g8 < g9) := hid (by have := hT.t.lt; omega)
       replace hT := (hT.below hB5).other (g := g9) (by have := hz.out; have := hz9.out; omega) (by have := hz.out; have := hz9.out; omega) (by have := hz9.out; omega) (by have := hz.out; have := hz9.out; omega) (ints .u8 S).toArray
       replace hb9 := hb9.setRow (ints .u8 S)
       clear hB5 hg9 hs5
       generalize w5.setRow g9 (ints .u8 S).toArray = w6 at *)
    | (refine alloc_blk rfl 23 rfl _ rfl (ints .u8 (onceTo S 0)) (by kernel_rfl) ?_; intro g10 w7 hg10 hb10 hB7 hs7)
    | fail)
  have hz10 : Hd (g9 < g10) := hid (by have := hb9.lt; omega)
  replace hb9 := hb9.belowAll hB7
  replace hT := hT.below hB7
  clear hB7 hg10 hs7
  go_loopg [11] 33 (fun kq v11 wr => ∃ i : Nat, i ≤ 32 ∧ v11 = .int .i64 i ∧ Hd (kq + i = 33) ∧ TG w wr g4 g5 g8 key nonce ∧ Blk wr g9 61 (ints .u8 S) ∧ Blk wr g10 23 (ints .u8 (onceTo S i)))
  case atStart => exact ⟨0, by omega, rfl, hid (by omega), hT, hb9, hb10⟩
  case round =>
    clear hT hb9 hb10
    obtain ⟨i, hi, rfl, hq, hT, hb9, hb10⟩ := hrel
    have hlt10 : Hd (g10 < wr.heap.size) := hid hb10.lt
    obtain ⟨O, hO⟩ : ∃ O, Hd (onceTo S i = O) := ⟨_, ⟨rfl⟩⟩
    have hOl : Hd (O.length = 32) := hid (by rw [← hO.out]; exact onceTo_length S i hi (by rw [hSl.out]; omega))
    rw [hO.out] at hb10
    by_cases hlt : i < 32
    · have a1 : (i : Int) < 32 := by omega
      have a2 : (i : Int) < 64 := by omega
      have cs := hb9.cellI i (by rw [hSl.out]; omega)
      have co := hb10.cellI i (by rw [hOl.out]; omega)
      have fo := hb10.frozen i
      have hOn : Hd (O.set i (rd S i) = onceTo S (i + 1)) := hid (by rw [← hO.out, onceTo_set S i hlt (by rw [hSl.out]; omega)])
      go_wp2_with fail
      go_roundg (gk - 1)
      case measure => have := hq.out; omega
      case rel =>
        have hx := hz.out
        have hx2 := hz9.out
        have hx3 := hz10.out
        refine ⟨i + 1, by omega, by go_num, hid (by have := hq.out; omega), hT.otherC (by omega) (by omega) (by omega) (by omega) i _, hb9.setOther (by simp; omega) _, ?_⟩
        rw [← hOn.out]
        exact hb10.setI i _
    · obtain rfl : i = 32 := by omega
      have hO32 : Hd (S.take 32 = O) := hid (by rw [← hO.out, onceTo_all])
      rw [hO32.out] at hTG
      clear hlt hi hb9 hq
      go_wp2_with (first
        | (go_at_call 23; refine (bytes_calls ad A c n wr HN.out (HR.out.below hT.bel) (by omega)).mono ?_
           rintro e w9 ⟨v12, rfl, ho, hB9⟩)
        | fail)
      replace hT := hT.below hB9
      replace hb10 := hb10.belowAll hB9
      obtain ⟨B, hBe⟩ : ∃ B, Hd (wr.heap.size = B) := ⟨_, ⟨rfl⟩⟩
      rw [hBe.out] at ho
      have hBs : B ≤ w9.heap.size := by rw [← hBe.out]; exact hB9.size
      have hBx : Hd (g4 < B ∧ g5 < B ∧ g8 < B ∧ w.heap.size ≤ B ∧ g10 < B) := hid (by
        have h1 := hz.out
        have h2 := hz9.out
        have h3 := hz10.out
        have h4 := hlt10.out
        rw [hBe.out] at h4
        omega)
      clear hB9 hBe
      obtain ⟨G, hGe⟩ : ∃ G, Hd (gap n = G) := ⟨_, ⟨rfl⟩⟩
      have hGl : G < 16 := by rw [← hGe.out]; exact gap_ltR n
      have hGG : Hd (∀ j, j ≤ G → ((ad.length + j) % 16 = 0 ↔ j = G)) := hid (fun j hj => by
        have h1 := hGe.out
        have h2 := HN.out
        unfold gap at h1
        omega)
      have hLG : Hd (ad.length ≤ 100000) := hid (by rw [← HN.out]; omega)
      go_loopg [12] (G + 1) (fun kq v12 wr => ∃ j : Nat, j ≤ G ∧ Hd (kq + j = G + 1) ∧ Own wr B 5 .u8 v12 (ad ++ List.replicate j 0) ∧ TG w wr g4 g5 g8 key nonce ∧ Blk wr g10 23 (ints .u8 O) ∧ B ≤ wr.heap.size)
      case atStart => exact ⟨0, by omega, hid (by omega), by simpa using ho, hT, hb10, hBs⟩
      case round =>
        clear ho hT hb10 hBs
        obtain ⟨j, hj, hq, ho, hT, hb10, hBs⟩ := hrel
        obtain ⟨ts, hts⟩ : ∃ ts, Hd (ad ++ List.replicate j 0 = ts) := ⟨_, ⟨rfl⟩⟩
        have hlen : Hd (ts.length ≤ 100016) := hid (by rw [← hts.out, List.length_append, List.length_replicate]; have := hLG.out; omega)
        rw [hts.out] at ho
        obtain ⟨A1, c1, hv, hc1, hA1, hr1⟩ := id ho.parts
        obtain ⟨L, hL⟩ : ∃ L, Hd (ts.length = L) := ⟨_, ⟨rfl⟩⟩
        rw [hL.out] at hv hc1
        have hmod : L % 16 = 0 ↔ j = G := by
          have e : L = (ad).length + j := by rw [← hL.out, ← hts.out, List.length_append, List.length_replicate]
          rw [e]; exact hGG.out j hj
        subst hv
        obtain ⟨r, hr⟩ : ∃ r : Nat, Hd (L % 16 = r) := ⟨_, ⟨rfl⟩⟩
        have h1 : (L : Int).tmod 16 = (r : Int) := by rw [Int.tmod_eq_emod_of_nonneg (by omega), ← hr.out]; omega
        have h1' : (L : Int) % 16 = (r : Int) := by rw [← hr.out]; omega
        have HR1 := hid hr1
        clear hr1
        by_cases hlt : j < G
        · have hr0 : ((r : Int) != 0) = true := by have := hr.out; have := hmod; rw [bne_iff_ne]; omega
          have hr0' : ((r : Int) == 0) = false := by have := hr.out; have := hmod; rw [beq_eq_false_iff_ne]; omega
          have hts1 : Hd (ts ++ [0] = ad ++ List.replicate (j + 1) 0) := hid (by rw [← hts.out, snoc_zeroR])
          have HJ := hid hlt
          clear hmod hlt
          go_wp2_with (first
            | (at_builtin; refine append_one rfl (.tmp 33) (.tmp 34) 24 rfl B 5 .u8 1 undBytes infoU8 _ ts rfl ho 0 rfl (by have := hlen.out; omega) (by have := hlen.out; omega) hBs ?_; intro v' w2 ho' hg'; rw [hts1.out] at ho')
            | fail)
          go_roundg (gk - 1)
          case measure => have := hq.out; omega
          case rel => have hx := hBx.out; exact ⟨j + 1, by have := HJ.out; omega, hid (by have := hq.out; omega), ho', hT.grown ho hg' hx.1 hx.2.1 hx.2.2.1 hx.2.2.2.1, hb10.grown hg' (fun he => ho.ne_lt hx.2.2.2.2 he.symm), Nat.le_trans hBs hg'.size⟩
        · have hjg : j = G := by omega
          have hr0 : ((r : Int) != 0) = false := by have := hr.out; have := hmod; rw [bne_eq_false_iff_eq]; omega
          have hr0' : ((r : Int) == 0) = true := by have := hr.out; have := hmod; rw [beq_iff_eq]; omega
          clear hmod hlt
          subst hjg
          have hM1 : Hd (padTo [] ad = ts) := hid (by rw [← hts.out, padTo, List.nil_append, ← HN.out, hGe.out])
          obtain ⟨M2, hM2⟩ : ∃ M2, Hd (ts ++ b = M2) := ⟨_, ⟨rfl⟩⟩
          go_wp2_with (first
            | (at_builtin; refine append_list rfl (.tmp 36) (.tmp 37) 24 rfl B 5 .u8 1 undBytes infoU8 _ ts rfl ho A' n' c' b rfl HN'.out hA' (HR'.out.below hT.bel) (by rw [← HN'.out]; have := hlen.out; omega) (by rw [← HN'.out]; have := hlen.out; omega) hBs ?_; intro v2 w2 ho2 hg2; rw [hM2.out] at ho2)
            | fail)
          have hx := hBx.out
          replace hT := hT.grown ho hg2 hx.1 hx.2.1 hx.2.2.1 hx.2.2.2.1
          replace hb10 := hb10.grown hg2 (fun he => ho.ne_lt hx.2.2.2.2 he.symm)
          replace hBs := Nat.le_trans hBs hg2.size
          obtain ⟨H, hHe⟩ : ∃ H, Hd (gap n' = H) := ⟨_, ⟨rfl⟩⟩
          have hHl : H < 16 := by rw [← hHe.out]; exact gap_ltR n'
          have hM2l : Hd (M2.length = ts.length + n') := hid (by rw [← hM2.out, List.length_append, ← HN'.out])
          have htm : Hd (ts.length % 16 = 0) := hid (by rw [← hM1.out]; exact padTo_modR [] ad rfl)
          have hGH : Hd (∀ j, j ≤ H → ((M2.length + j) % 16 = 0 ↔ j = H)) := hid (fun j hj => by
            have h1 := hHe.out
            have h2 := hM2l.out
            have h3 := htm.out
            unfold gap at h1
            omega)
          have hLH : Hd (M2.length ≤ 200030) := hid (by have := hM2l.out; have := hlen.out; omega)
          clear ho hM2l htm hlen hts
          have ho := ho2
          clear ho2 hg2
          go_loopg [12] (H + 1) (fun kq v12 wr => ∃ j : Nat, j ≤ H ∧ Hd (kq + j = H + 1) ∧ Own wr B 5 .u8 v12 (M2 ++ List.replicate j 0) ∧ TG w wr g4 g5 g8 key nonce ∧ Blk wr g10 23 (ints .u8 O) ∧ B ≤ wr.heap.size)
          case atStart => exact ⟨0, by omega, hid (by omega), by simpa using ho, hT, hb10, hBs⟩
          case round =>
            clear ho hT hb10 hBs
            obtain ⟨j, hj, hq, ho, hT, hb10, hBs⟩ := hrel
            obtain ⟨ts, hts⟩ : ∃ ts, Hd (M2 ++ List.replicate j 0 = ts) := ⟨_, ⟨rfl⟩⟩
            have hlen : Hd (ts.length ≤ 200050) := hid (by rw [← hts.out, List.length_append, List.length_replicate]; have := hLH.out; omega)
            rw [hts.out] at ho
            obtain ⟨A1, c1, hv, hc1, hA1, hr1⟩ := id ho.parts
            obtain ⟨L, hL⟩ : ∃ L, Hd (ts.length = L) := ⟨_, ⟨rfl⟩⟩
            rw [hL.out] at hv hc1
            have hmod : L % 16 = 0 ↔ j = H := by
              have e : L = (M2).length + j := by rw [← hL.out, ← hts.out, List.length_append, List.length_replicate]
              rw [e]; exact hGH.out j hj
            subst hv
            obtain ⟨r, hr⟩ : ∃ r : Nat, Hd (L % 16 = r) := ⟨_, ⟨rfl⟩⟩
            have h1 : (L : Int).tmod 16 = (r : Int) := by rw [Int.tmod_eq_emod_of_nonneg (by omega), ← hr.out]; omega
            have h1' : (L : Int) % 16 = (r : Int) := by rw [← hr.out]; omega
            have HR1 := hid hr1
            clear hr1
            by_cases hlt : j < H
            · have hr0 : ((r : Int) != 0) = true := by have := hr.out; have := hmod; rw [bne_iff_ne]; omega
              have hr0' : ((r : Int) == 0) = false := by have := hr.out; have := hmod; rw [beq_eq_false_iff_ne]; omega
              have hts1 : Hd (ts ++ [0] = M2 ++ List.replicate (j + 1) 0) := hid (by rw [← hts.out, snoc_zeroR])
              have HJ := hid hlt
              clear hmod hlt
              go_wp2_with (first
                | (at_builtin; refine append_one rfl (.tmp 43) (.tmp 44) 24 rfl B 5 .u8 1 undBytes infoU8 _ ts rfl ho 0 rfl (by have := hlen.out; omega) (by have := hlen.out; omega) hBs ?_; intro v' w2 ho' hg'; rw [hts1.out] at ho')
                | fail)
              go_roundg (gk - 1)
              case measure => have := hq.out; omega
              case rel => have hx := hBx.out; exact ⟨j + 1, by have := HJ.out; omega, hid (by have := hq.out; omega), ho', hT.grown ho hg' hx.1 hx.2.1 hx.2.2.1 hx.2.2.2.1, hb10.grown hg' (fun he => ho.ne_lt hx.2.2.2.2 he.symm), Nat.le_trans hBs hg'.size⟩
            · have hjg : j = H := by omega
              have hr0 : ((r : Int) != 0) = false := by have := hr.out; have := hmod; rw [bne_eq_false_iff_eq]; omega
              have hr0' : ((r : Int) == 0) = true := by have := hr.out; have := hmod; rw [beq_iff_eq]; omega
              clear hmod hlt
              subst hjg
              obtain ⟨M3, hM3⟩ : ∃ M3, Hd (padTo (padTo [] ad) b = M3) := ⟨_, ⟨rfl⟩⟩
              have hts3 : Hd (ts = M3) := hid (by rw [← hts.out, ← hM3.out, padTo, ← hM2.out, ← hM1.out, ← HN'.out, hHe.out])
              have hM3l : Hd (M3.length ≤ 200050) := hid (by rw [← hts3.out]; exact hlen.out)
              rw [hts3.out] at ho
              clear hts hts3 hL hM1 hM2
              go_wp2_with fail
              go_loopg [12, 13] 9 (fun kq v12 v13 wr => ∃ j : Nat, j ≤ 8 ∧ v13 = .int .i64 j ∧ Hd (kq + j = 9) ∧ Own wr B 5 .u8 v12 (M3 ++ lenTo n j) ∧ TG w wr g4 g5 g8 key nonce ∧ Blk wr g10 23 (ints .u8 O) ∧ B ≤ wr.heap.size)
              case atStart => exact ⟨0, by omega, rfl, hid (by omega), by simpa [lenTo] using ho, hT, hb10, hBs⟩
              case round =>
                clear ho hT hb10 hBs
                obtain ⟨j, hj, rfl, hq, ho, hT, hb10, hBs⟩ := hrel
                obtain ⟨ts, hts⟩ : ∃ ts, Hd (M3 ++ lenTo n j = ts) := ⟨_, ⟨rfl⟩⟩
                have hlen : Hd (ts.length ≤ 200060) := hid (by rw [← hts.out, List.length_append, lenTo_length]; have := hM3l.out; omega)
                rw [hts.out] at ho
                by_cases hlt : j < 8
                · have hts1 : Hd (ts ++ [(n : Int) / 2 ^ (8 * j) % 256] = M3 ++ lenTo n (j + 1)) := hid (by rw [← hts.out, lenTo_succ, ← List.append_assoc])
                  go_wp2_with (first
                    | (at_builtin; refine append_one rfl (.tmp 50) (.tmp 59) 24 rfl B 5 .u8 1 undBytes infoU8 _ ts rfl ho _ rfl (by have := hlen.out; omega) (by have := hlen.out; omega) hBs ?_; intro v' w2 ho' hg')
                    | fail)
                  rw [hts1.out] at ho'
                  go_roundg (gk - 1)
                  case measure => have := hq.out; omega
                  case rel => have hx := hBx.out; exact ⟨j + 1, by omega, by go_num, hid (by have := hq.out; omega), ho', hT.grown ho hg' hx.1 hx.2.1 hx.2.2.1 hx.2.2.2.1, hb10.grown hg' (fun he => ho.ne_lt hx.2.2.2.2 he.symm), Nat.le_trans hBs hg'.size⟩
                · obtain rfl : j = 8 := by omega
                  clear hlt hj hq
                  obtain ⟨M4, hM4⟩ : ∃ M4, Hd (M3 ++ lenTo n 8 = M4) := ⟨_, ⟨rfl⟩⟩
                  have hts4 : Hd (ts = M4) := hid (by rw [← hts.out, hM4.out])
                  have hM4l : Hd (M4.length ≤ 200060) := hid (by rw [← hts4.out]; exact hlen.out)
                  rw [hts4.out] at ho
                  clear hts hts4 hlen
                  go_wp2_with fail
                  go_loopg [12, 14] 9 (fun kq v12 v14 wr => ∃ j : Nat, j ≤ 8 ∧ v14 = .int .i64 j ∧ Hd (kq + j = 9) ∧ Own wr B 5 .u8 v12 (M4 ++ lenTo n' j) ∧ TG w wr g4 g5 g8 key nonce ∧ Blk wr g10 23 (ints .u8 O) ∧ B ≤ wr.heap.size)
                  case atStart => exact ⟨0, by omega, rfl, hid (by omega), by simpa [lenTo] using ho, hT, hb10, hBs⟩
                  case round =>
                    clear ho hT hb10 hBs
                    obtain ⟨j, hj, rfl, hq, ho, hT, hb10, hBs⟩ := hrel
                    obtain ⟨ts, hts⟩ : ∃ ts, Hd (M4 ++ lenTo n' j = ts) := ⟨_, ⟨rfl⟩⟩
                    have hlen : Hd (ts.length ≤ 200080) := hid (by rw [← hts.out, List.length_append, lenTo_length]; have := hM4l.out; omega)
                    rw [hts.out] at ho
                    by_cases hlt : j < 8
                    · have hts1 : Hd (ts ++ [(n' : Int) / 2 ^ (8 * j) % 256] = M4 ++ lenTo n' (j + 1)) := hid (by rw [← hts.out, lenTo_succ, ← List.append_assoc])
                      go_wp2_with (first
                        | (at_builtin; refine append_one rfl (.tmp 65) (.tmp 74) 24 rfl B 5 .u8 1 undBytes infoU8 _ ts rfl ho _ rfl (by have := hlen.out; omega) (by have := hlen.out; omega) hBs ?_; intro v' w2 ho' hg')
                        | fail)
                      rw [hts1.out] at ho'
                      go_roundg (gk - 1)
                      case measure => have := hq.out; omega
                      case rel => have hx := hBx.out; exact ⟨j + 1, by omega, by go_num, hid (by have := hq.out; omega), ho', hT.grown ho hg' hx.1 hx.2.1 hx.2.2.1 hx.2.2.2.1, hb10.grown hg' (fun he => ho.ne_lt hx.2.2.2.2 he.symm), Nat.le_trans hBs hg'.size⟩
                    · obtain rfl : j = 8 := by omega
                      clear hlt hj hq
                      have hM5 : Hd (ts = tagText ad b) := hid (by rw [← hts.out, ← hM4.out, ← hM3.out, tagText, HN.out, HN'.out])
                      clear hM4 hM3 hts
                      obtain ⟨A1, c1, hv, hc1, hA1, hr1⟩ := id ho.parts
                      have hML : Hd (ts.length ≤ 200080) := hid hlen.out
                      obtain ⟨L, hL⟩ : ∃ L, Hd (ts.length = L) := ⟨_, ⟨rfl⟩⟩
                      rw [hL.out] at hv hc1
                      subst hv
                      have rts : bytesOk ts := by rw [hM5.out]; exact rM
                      rw [← hM5.out] at hTG
                      have hOl2 : Hd (O.length = 32) := hid hOl.out
                      have rO : bytesOk O := by rw [← hO32.out]; exact bytesOk_take rS 32
                      go_wp2_with (first
                        | (refine load_blk rfl 23 _ rfl g10 rfl 23 _ hb10 32 5 arr23 (by simpa using hOl2.out) info23 ?_)
                        | (go_at_call 44; refine (tag1_calls O ts A1 L _ wr hOl2.out rO hL.out.symm hr1 rts (by have := hML.out; omega)).mono ?_
                           rintro e w3 ⟨he3, hB3⟩; rw [hTG.out] at he3; subst he3
                           replace hT := hT.below hB3)
                        | (refine store_blk rfl 57 _ _ rfl g8 (ints .u8 (tagOf key nonce ad b)) rfl rfl 57 _ hT.t 16 infoT16 (by simp [ints, tagOf_length]) (by simp) (ints_one _ _) ?_)
                        | fail)
                      refine bodyPost_ret (results_blk rfl _ _ g8 57 _ 16 5 rfl (hT.t.setRow _) undT16 (by simp [ints, tagOf_length]) infoT16) rfl ?_
                      exact ⟨rfl, below_setRow hT.bel (by have := hz.out; omega) _⟩
end Go.Proofs.YtenjpmegnjdobaaDoor
/- The reference's Seal and Open. -/
namespace Go.Proofs.YtenjpmegnjdobaaDoor
open Go.RowKit Go.Cour
set_option maxHeartbeats 1000000 in
set_option maxRecDepth 100000 in
theorem seal1_calls (key nonce ad b : List Int) (A A' : Option Addr) (c c' n n' : Nat) (w : World) (hk : key.length = 32) (hnl : nonce.length = 12) (rk : bytesOk key) (rn : bytesOk nonce)
    (hn : n = ad.length) (hr : Rd w A .u8 ad) (ra : bytesOk ad) (hn' : n' = b.length) (hr' : Rd w A' .u8 b) (rb : bytesOk b) (hla : ad.length ≤ 100000) (hlb : b.length ≤ 100000) :
    Calls Tryd.prog 26 #[.agg (ints .u8 key).toArray, .agg (ints .u8 nonce).toArray, .slice A n c, .slice A' n' c'] w fun e w' => ∃ v, e = .returned v ∧ Own w' w.heap.size 5 .u8 v (sealText key nonce ad b) ∧ Below w.heap.size w w' := by
  have HK := hid hk
  have HNL := hid hnl
  have HN := hid hn
  have HR := hid hr
  have HN' := hid hn'
  have HR' := hid hr'
  clear hk hnl hn hr hn' hr'
  obtain ⟨X, hX⟩ : ∃ X, Hd (xorStream key 1 nonce b = X) := ⟨_, hid rfl⟩
  have hXl : Hd (X.length = n') := hid (by rw [← hX.out, xorStream_length, HN'.out])
  have rX : bytesOk X := by rw [← hX.out]; exact xorStream_ok key 1 nonce b rb
  obtain ⟨T, hT⟩ : ∃ T, Hd (tagOf key nonce ad X = T) := ⟨_, hid rfl⟩
  have hTl : Hd (T.length = 16) := hid (by rw [← hT.out]; exact tagOf_length _ _ _ _)
  have hXT : Hd (X ++ T = sealText key nonce ad b) := hid (by rw [sealText, hX.out, hT.out])
  have hlb' : n' ≤ 100000 := by rw [HN'.out]; exact hlb
  go_enter Tryd.func26, Tryd.ntmps26
  go_wp2_with (first
    | (refine box_blk rfl 23 _ rfl _ rfl (ints .u8 key) rfl ?_; intro g4 w1 hg4 hb4 hB1 hs1)
    | (refine box_blk rfl 47 _ rfl _ rfl (ints .u8 nonce) rfl ?_; intro g5 w2 hg5 hb5 hB2 hs2
       replace hb4 := hb4.belowAll hB2
       have hBa : Below w.heap.size w w2 := below_then hB1 hB1.size hB2
       clear hB1 hB2 hg4 hg5 hs1 hs2)
    | (refine load_blk rfl 23 _ rfl g4 rfl 23 _ hb4 32 5 arr23 (by simpa using HK.out) info23 ?_)
    | (refine load_blk rfl 47 _ rfl g5 rfl 47 _ hb5 12 5 arr24 (by simpa using HNL.out) info24 ?_)
    | (go_at_call 34; refine (xor1_calls key nonce b 1 A' n' c' w2 HN'.out HK.out HNL.out rk rn (by omega) (HR'.out.below hBa) (by omega)).mono ?_
       rintro e w3 ⟨v, rfl, ho, hB3⟩
       rw [hX.out] at ho
       replace hb4 := hb4.belowAll hB3
       replace hb5 := hb5.belowAll hB3
       have hBb : Below w.heap.size w w3 := below_then hBa hBa.size hB3
       obtain ⟨A1, c1, hv, hc1, hA1, hr1⟩ := id ho.parts
       rw [hXl.out] at hv hc1
       subst hv
       clear hB3)
    | (go_at_call 35; refine (tagged1_calls key nonce ad X A A1 c c1 n n' w3 HK.out HNL.out rk rn HN.out (HR.out.below hBb) ra hXl.out.symm hA1 hr1 rX hla (by rw [hXl.out]; exact hlb')).mono ?_
       rintro e w4 ⟨he4, hB4⟩
       rw [hT.out] at he4
       subst he4)
    | (refine alloc_blk rfl 57 rfl _ rfl (ints .u8 (List.replicate 16 0)) zeroT16 ?_; intro g10 w5 hg10 hb10 hB5 hs5)
    | (refine store_blk rfl 57 _ _ rfl g10 (ints .u8 T) rfl rfl 57 _ hb10 16 infoT16 (by simpa using hTl.out) (by simp) (ints_one _ _) ?_
       replace hb10 := hb10.setRow (ints .u8 T)
       have hBc : Below w3.heap.size w3 (w5.setRow g10 (ints .u8 T).toArray) := below_then hB4 hB4.size (below_setRow hB5 (by omega) _)
       clear hB4 hB5 hg10 hs5
       generalize w5.setRow g10 (ints .u8 T).toArray = w6 at *
       have ho2 := (ho.below hBc).lower hBa.size
       have hBd : Below w.heap.size w w6 := below_then hBb hBb.size hBc)
    | (at_builtin; refine append_list rfl (.tmp 20) (.tmp 21) 24 rfl w.heap.size 5 .u8 1 undBytes infoU8 _ X rfl ho2 (some ⟨g10, 0, none⟩) 16 16 T rfl hTl.out.symm (by intro h; cases h) (Rd.ofBlk hb10) (by rw [hXl.out, hTl.out]; omega) (by rw [hXl.out, hTl.out]; omega) hBd.size ?_; intro v1 w7 ho7 hg7)
    | fail)
  go_ret
  refine ⟨v1, by simp, ?_, ?_⟩
  · rw [← hXT.out]; exact ho7
  · exact ho2.grown_below hBd hg7 hBd.size (Nat.le_refl _)
/-- Two results of the reference: bytes, a number. -/
def Opened1 (w' : World) (base : Nat) (r : List Int ⊕ Nat) (v : Value) (k : Int) : Prop := match r with
  | .inl xs => k = 0 ∧ Own w' base 5 .u8 v xs
  | .inr j => k = 101 + (j : Int) ∧ v = .slice none 0 0
set_option maxHeartbeats 2000000 in
set_option maxRecDepth 100000 in
theorem open1_calls (key nonce ad b : List Int) (A A' : Option Addr) (c c' n n' : Nat) (w : World) (hk : key.length = 32) (hnl : nonce.length = 12) (rk : bytesOk key) (rn : bytesOk nonce)
    (hn : n = ad.length) (hr : Rd w A .u8 ad) (ra : bytesOk ad) (hn' : n' = b.length) (hc' : n' ≤ c') (hr' : Rd w A' .u8 b) (rb : bytesOk b) (hla : ad.length ≤ 100000) (hlb : b.length ≤ 100000) :
    Calls Tryd.prog 29 #[.agg (ints .u8 key).toArray, .agg (ints .u8 nonce).toArray, .slice A n c, .slice A' n' c'] w fun e w' => ∃ v k, e = .returned (.tuple #[v, .int .i64 k]) ∧ Opened1 w' w.heap.size (openOf key nonce ad b) v k ∧ Below w.heap.size w w' := by
  have HK := hid hk
  have HNL := hid hnl
  have HN := hid hn
  have HR := hid hr
  have HN' := hid hn'
  have HR' := hid hr'
  have hlb' : n' ≤ 100000 := by omega
  clear hk hnl hn hr hn' hr'
  by_cases hs : n' < 16
  · have hop : Hd (openOf key nonce ad b = .inr 2) := hid (by rw [openOf, if_pos (by rw [← HN'.out]; exact hs)])
    rw [hop.out]
    have hs1 : (n' : Int) < 16 := by omega
    go_enter Tryd.func29, Tryd.ntmps29
    go_wp2_with (first
      | (refine box_blk rfl 23 _ rfl _ rfl (ints .u8 key) rfl ?_; intro g4 w1 hg4 hb4 hB1 hs1)
      | (refine box_blk rfl 47 _ rfl _ rfl (ints .u8 nonce) rfl ?_; intro g5 w2 hg5 hb5 hB2 hs2
         have hB := below_then hB1 hB1.size hB2
         clear hg4 hg5 hs1 hs2)
      | fail)
    refine bodyPost_ret (results_tmp2 rfl _ _ rfl rfl) rfl ?_
    exact ⟨_, _, rfl, ⟨rfl, rfl⟩, hB⟩
  · obtain ⟨k, hk16⟩ : ∃ k : Nat, n' = k + 16 := ⟨n' - 16, by omega⟩
    have hk16' : Hd (n' = k + 16) := hid hk16
    have hs1 : ¬ (n' : Int) < 16 := by omega
    obtain ⟨g, o, hA'⟩ := HR'.out.at (by rw [← HN'.out]; omega)
    subst hA'
    obtain ⟨cs, hcs⟩ : ∃ cs, Hd (b.take k = cs) := ⟨_, ⟨rfl⟩⟩
    obtain ⟨ls, hls⟩ : ∃ ls, Hd (b.drop k = ls) := ⟨_, ⟨rfl⟩⟩
    have hcl : Hd (k = cs.length) := hid (by rw [← hcs.out, List.length_take, ← HN'.out]; omega)
    have hll : Hd (16 = ls.length) := hid (by rw [← hls.out, List.length_drop, ← HN'.out]; omega)
    have hrc : Hd (Rd w (some ⟨g, o, none⟩) .u8 cs) := hid (by rw [← hcs.out]; exact HR'.out.take k)
    have hrl : Hd (Rd w (some ⟨g, o + k, none⟩) .u8 ls) := hid (by
      have := rd_slice HR'.out k
      rw [Option.map_some, add_lit, hls.out] at this
      exact this)
    have rcs : bytesOk cs := by rw [← hcs.out]; exact bytesOk_take rb k
    have w1f : (n' : Int) - 16 = (k : Int) := by omega
    have hck : ¬ c' = k := by omega
    have hop : Hd (openOf key nonce ad b = if tagOf key nonce ad cs = ls then .inl (xorStream key 1 nonce cs) else .inr 8) := hid (by
      rw [openOf, if_neg (by rw [← HN'.out]; omega)]
      have e : b.length - 16 = k := by rw [← HN'.out]; omega
      rw [e, hcs.out, hls.out])
    have hkn : (k : Int) ≤ (n' : Int) := by omega
    clear hk16
    have e16 : n' - k = 16 := by have := hk16'.out; omega
    obtain ⟨T, hT⟩ : ∃ T, Hd (tagOf key nonce ad cs = T) := ⟨_, ⟨rfl⟩⟩
    have htl : Hd (T.length = 16) := hid (by rw [← hT.out]; exact tagOf_length key nonce ad cs)
    rw [hT.out] at hop
    go_enter Tryd.func29, Tryd.ntmps29
    go_wp2_with (first
      | (refine box_blk rfl 23 _ rfl _ rfl (ints .u8 key) rfl ?_; intro g4 w1 hg4 hb4 hB1 hs1)
      | (refine box_blk rfl 47 _ rfl _ rfl (ints .u8 nonce) rfl ?_; intro g5 w2 hg5 hb5 hB2 hs2
         have hB := below_then hB1 hB1.size hB2
         replace hb4 := hb4.belowAll hB2
         clear hg4 hg5 hs1 hs2 hB1 hB2)
      | (refine load_blk rfl 23 _ rfl g4 rfl 23 _ hb4 32 5 arr23 (by simpa using HK.out) info23 ?_)
      | (refine load_blk rfl 47 _ rfl g5 rfl 47 _ hb5 12 5 arr24 (by simpa using HNL.out) info24 ?_)
      | (go_at_call 35; refine (tagged1_calls key nonce ad cs A (some ⟨g, o, none⟩) c c' n k w2 HK.out HNL.out rk rn HN.out (HR.out.below hB) ra hcl.out (by intro h; cases h) (hrc.out.below hB) rcs hla (by rw [← hcl.out]; omega)).mono ?_
         rintro e w4 ⟨he4, hB4⟩; rw [hT.out] at he4; subst he4
         replace hb4 := hb4.belowAll hB4
         replace hb5 := hb5.belowAll hB4)
      | (refine alloc_blk rfl 57 rfl _ rfl (ints .u8 (List.replicate 16 0)) zeroT16 ?_; intro g11 w5 hg11 hb11 hB5 hs5)
      | (refine store_blk rfl 57 _ _ rfl g11 (ints .u8 T) rfl rfl 57 _ hb11 16 infoT16 (by simpa using htl.out) (by simp) (ints_one _ _) ?_
         replace hb11 := hb11.setRow (ints .u8 T)
         have hBc : Below w4.heap.size w4 (w5.setRow g11 (ints .u8 T).toArray) := below_setRow hB5 (by omega) _
         replace hb4 := hb4.belowAll hBc
         replace hb5 := hb5.belowAll hBc
         have hBd : Below w.heap.size w (w5.setRow g11 (ints .u8 T).toArray) := below_then hB hB.size (below_then hB4 hB4.size hBc)
         clear hB4 hB5 hg11 hs5 hBc
         generalize w5.setRow g11 (ints .u8 T).toArray = w6 at *)
      | fail)
    have a1 : IntKind.i64.wrap (k : Int) = (k : Int) := IntWalk.i64_in _ (by omega)
    have hrT := Rd.ofBlk hb11
    have hrL := hrl.out.below hBd
    go_quiet ((go_at_call 11; exact Calls.quiet_of (same_calls T ls (some ⟨g11, 0, none⟩) (some ⟨g, o + k, none⟩) _ _ 16 _ _ htl.out.symm (by first | exact hll.out | (rw [← hll.out]; omega)) (hrT.drewN _) (hrL.drewN _) (by rw [htl.out]; omega) (by rw [← hll.out]; omega))))
    by_cases hte : T = ls
    · have hdt := decide_eq_true hte
      have hop2 : Hd (openOf key nonce ad b = .inl (xorStream key 1 nonce cs)) := hid (by rw [hop.out, if_pos hte])
      have hdt := hid hdt
      clear hop
      rw [hdt.out]
      generalize hW : w6.drewN _ = w7
      have hB8 : Below w.heap.size w w7 := by rw [← hW]; exact below_drewN hBd _
      replace hb4 : Blk w7 g4 23 (ints .u8 key) := by rw [← hW]; exact hb4.drewN _
      replace hb5 : Blk w7 g5 47 (ints .u8 nonce) := by rw [← hW]; exact hb5.drewN _
      clear hW hB hBd hb11 hrT hrL hte
      go_wp2_with (first
        | (refine load_blk rfl 23 _ rfl g4 rfl 23 _ hb4 32 5 arr23 (by simpa using HK.out) info23 ?_)
        | (refine load_blk rfl 47 _ rfl g5 rfl 47 _ hb5 12 5 arr24 (by simpa using HNL.out) info24 ?_)
        | (go_at_call 34; refine (xor1_calls key nonce cs 1 (some ⟨g, o, none⟩) k c' w7 hcl.out HK.out HNL.out rk rn (by omega) (hrc.out.below hB8) (by rw [← hcl.out]; omega)).mono ?_
           rintro e w8 ⟨v, rfl, ho, hB9⟩)
        | fail)
      refine bodyPost_ret (results_tmp2 rfl _ _ rfl rfl) rfl ?_
      refine ⟨_, _, rfl, ?_, below_then hB8 hB8.size hB9⟩
      rw [hop2.out]
      exact ⟨rfl, ho.lower hB8.size⟩
    · have hdf := hid (decide_eq_false hte)
      have hop2 : Hd (openOf key nonce ad b = .inr 8) := hid (by rw [hop.out, if_neg hte])
      clear hop
      rw [hdf.out]
      clear hte
      go_wp2_with fail
      refine bodyPost_ret (results_tmp2 rfl _ _ rfl rfl) rfl ?_
      refine ⟨_, _, rfl, ?_, below_drewN hBd _⟩
      rw [hop2.out]
      exact ⟨rfl, rfl⟩
end Go.Proofs.YtenjpmegnjdobaaDoor
/- courierref16's chunks: one, Count, Piece, nonce, Seal, Open. -/
namespace Go.Proofs.YtenjpmegnjdobaaDoor
open Go.RowKit Go.Cour
attribute [local go_sem] max2_int min2_int
theorem one16_calls (q : Int) (w : World) : Calls Tryd.prog 21 #[.int .i64 q] w fun e w' => e = .returned (.int .i64 (max q 1)) ∧ w' = w := by
  obtain ⟨c, hc⟩ : ∃ c : Int, max q 1 = c := ⟨_, rfl⟩
  have m1 : (if q < 1 then (1 : Int) else q) = c := by split <;> omega
  rw [hc]
  clear hc
  go_enter Tryd.func21, Tryd.ntmps21
  go_wp2_with fail
  go_ret
  exact ⟨rfl, rfl⟩
set_option maxHeartbeats 400000 in
theorem count16_calls (p q : Int) (w : World) (hp : 0 ≤ p ∧ p ≤ 1000000) (hq : -1000000 ≤ q ∧ q ≤ 1000000) :
    Calls Tryd.prog 10 #[.int .i64 p, .int .i64 q] w fun e w' => e = .returned (.int .i64 (countI p q)) ∧ w' = w := by
  obtain ⟨c, hc⟩ : ∃ c : Int, Hd (max q 1 = c) := ⟨_, hid rfl⟩
  obtain ⟨d, hd⟩ : ∃ d : Int, p / c = d := ⟨_, rfl⟩
  obtain ⟨r, hr⟩ : ∃ r : Int, p % c = r := ⟨_, rfl⟩
  have c1 : 1 ≤ c := by have := hc.out; omega
  have c2 : c ≤ 1000000 := by have := hc.out; omega
  have d0 : 0 ≤ d := hd ▸ Int.ediv_nonneg hp.1 (by omega)
  have d1 : d ≤ p := hd ▸ Int.ediv_le_self _ hp.1
  have r0 : 0 ≤ r := hr ▸ Int.emod_nonneg p (by omega)
  have r1 : r < c := hr ▸ Int.emod_lt_of_pos p (by omega)
  have hdr : Hd (d * c + r = p) := hid (by rw [← hd, ← hr, Int.mul_comm]; exact Int.mul_ediv_add_emod p c)
  have t1 : p.tdiv c = d := by rw [Int.tdiv_eq_ediv_of_nonneg hp.1, hd]
  have t2 : p.tmod c = r := by rw [Int.tmod_eq_emod_of_nonneg hp.1, hr]
  have hco : Hd (countI p q = countD p d (d * c)) := hid (by rw [countI, hc.out, show max p 0 = p by omega, hd])
  have hcz : (c == 0) = false := by rw [beq_eq_false_iff_ne]; omega
  have p0 := hp.1
  have p1 := hp.2
  rw [hco.out]
  unfold countD
  by_cases hlt : 0 < r
  · rw [if_pos (by have := hdr.out; omega)]
    have m3 : max (d + 1) 1 = d + 1 := by omega
    rw [m3]
    go_enter Tryd.func10, Tryd.ntmps10
    go_wp2_with (first
      | (go_at_call 21; refine (one16_calls q _).mono ?_; rintro e w2 ⟨rfl, rfl⟩; rw [hc.out])
      | fail)
    go_ret
    exact ⟨rfl, rfl⟩
  · rw [if_neg (by have := hdr.out; omega)]
    by_cases h1 : 1 ≤ d
    · have m3 : max d 1 = d := by omega
      rw [m3]
      go_enter Tryd.func10, Tryd.ntmps10
      go_wp2_with (first
        | (go_at_call 21; refine (one16_calls q _).mono ?_; rintro e w2 ⟨rfl, rfl⟩; rw [hc.out])
        | fail)
      go_ret
      exact ⟨rfl, rfl⟩
    · have hd0 : d = 0 := by omega
      subst hd0
      rw [show max (0 : Int) 1 = 1 from rfl]
      go_enter Tryd.func10, Tryd.ntmps10
      go_wp2_with (first
        | (go_at_call 21; refine (one16_calls q _).mono ?_; rintro e w2 ⟨rfl, rfl⟩; rw [hc.out])
        | fail)
      go_ret
      exact ⟨rfl, rfl⟩
set_option maxHeartbeats 400000 in
set_option maxRecDepth 100000 in
theorem piece16_calls (xs : List Int) (A : Option Addr) (n cap : Nat) (q i : Int) (w : World) (hn : n = xs.length) (hcap : n ≤ cap) (hr : Rd w A .u8 xs) (hl : xs.length ≤ 100000)
    (hq : -1000000 ≤ q ∧ q ≤ 1000000) (hi : -1000000 ≤ i ∧ i ≤ 1000000) :
    Calls Tryd.prog 13 #[.slice A n cap, .int .i64 q, .int .i64 i] w fun e w' => ∃ v, e = .returned v ∧ Own w' w.heap.size 5 .u8 v (pieceOf xs q i) ∧ Below w.heap.size w w' := by
  have HN := hid hn
  have HR := hid hr
  rw [← hn] at hl
  clear hn hr
  obtain ⟨c, hc⟩ : ∃ c : Int, Hd (max q 1 = c) := ⟨_, hid rfl⟩
  have c1 : 1 ≤ c := by have := hc.out; omega
  have c2 : c ≤ 1000000 := by have := hc.out; omega
  obtain ⟨d, hd⟩ : ∃ d : Int, Hd ((n : Int) / c = d) := ⟨_, ⟨rfl⟩⟩
  have hpc : pieceOf xs q i = if i < 0 ∨ d < i then [] else (xs.drop (i * c).toNat).take c.toNat := by rw [pieceOf, hc.out, ← HN.out, hd.out]
  rw [hpc]
  clear hpc
  have w1 : ((n : Int)).tdiv c = d := by rw [Int.tdiv_eq_ediv_of_nonneg (by omega), hd.out]
  have w1' := hd.out
  have hcz : (c == 0) = false := by rw [beq_eq_false_iff_ne]; omega
  have hd0 : 0 ≤ d := by rw [← hd.out]; exact Int.ediv_nonneg (by omega) (by omega)
  have hdn : d ≤ n := by rw [← hd.out]; exact Int.ediv_le_self _ (by omega)
  by_cases h0 : i < 0
  · rw [if_pos (.inl h0)]
    go_enter Tryd.func13, Tryd.ntmps13
    go_wp2_with (first
      | (go_at_call 21; refine (one16_calls q _).mono ?_; rintro e w2 ⟨rfl, rfl⟩; rw [hc.out])
      | fail)
    go_ret
    exact ⟨_, rfl, Own.nil _ _ _ _, Below.refl _ _⟩
  · by_cases h1 : d < i
    · rw [if_pos (.inr h1)]
      go_enter Tryd.func13, Tryd.ntmps13
      go_wp2_with (first
        | (go_at_call 21; refine (one16_calls q _).mono ?_; rintro e w2 ⟨rfl, rfl⟩; rw [hc.out])
        | fail)
      go_ret
      exact ⟨_, rfl, Own.nil _ _ _ _, Below.refl _ _⟩
    · rw [if_neg (by omega)]
      obtain ⟨f, hf⟩ : ∃ f : Nat, Hd ((f : Int) = i * c) := ⟨(i * c).toNat, ⟨Int.toNat_of_nonneg (Int.mul_nonneg (by omega) (by omega))⟩⟩
      have hfn : f ≤ n := by
        have h3 : i * c ≤ d * c := Int.mul_le_mul_of_nonneg_right (by omega) (by omega)
        have h4 : d * c ≤ n := hd.out ▸ Int.ediv_mul_le _ (by omega)
        have h5 := hf.out
        generalize i * c = ic at *
        generalize d * c = dc at *
        omega
      have w2 : wrap64 (i * c) = (f : Int) := by rw [← hf.out]; exact IntWalk.wrap64_in _ (by omega)
      by_cases hfe : n ≤ f
      · have hfe2 : (n : Int) ≤ f := by omega
        have hp : (xs.drop (i * c).toNat).take c.toNat = [] := by rw [← hf.out, Int.toNat_natCast, List.drop_eq_nil_of_le (by rw [← HN.out]; exact hfe), List.take_nil]
        rw [hp]
        go_enter Tryd.func13, Tryd.ntmps13
        go_wp2_with (first
          | (go_at_call 21; refine (one16_calls q _).mono ?_; rintro e w2 ⟨rfl, rfl⟩; rw [hc.out])
          | fail)
        go_ret
        exact ⟨_, rfl, Own.nil _ _ _ _, Below.refl _ _⟩
      · have hfe2 : ¬ (n : Int) ≤ f := by omega
        obtain ⟨k, hk⟩ : ∃ k : Nat, Hd (k = min c.toNat (n - f)) := ⟨_, ⟨rfl⟩⟩
        have hkn : f + k ≤ n := by have := hk.out; omega
        have hp : Hd ((xs.drop (i * c).toNat).take c.toNat = (xs.drop f).take k) := ⟨by
          rw [← hf.out, Int.toNat_natCast, hk.out]
          rcases Nat.le_total c.toNat (n - f) with h | h
          · rw [Nat.min_eq_left h]
          · rw [Nat.min_eq_right h, List.take_of_length_le (by rw [List.length_drop, ← HN.out]; exact h), List.take_of_length_le (by rw [List.length_drop, ← HN.out]; exact Nat.le_refl _)]⟩
        rw [hp.out]
        have m2 := min_k1 n f k c c1 hk.out hfn
        have m3 := min_k2 n f k c c1 hk.out hfn
        have hlen : Hd (k = ((xs.drop f).take k).length) := ⟨by rw [List.length_take, List.length_drop, ← HN.out]; omega⟩
        have hcf : ¬ cap = f := by omega
        go_enter Tryd.func13, Tryd.ntmps13
        go_wp2_with (first
          | (go_at_call 21; refine (one16_calls q _).mono ?_; rintro e w2 ⟨rfl, rfl⟩; rw [hc.out])
          | (go_at_call 23; refine (bytes_calls ((xs.drop f).take k) _ _ _ _ hlen.out ((rd_sliceC HR.out f).take k) (by omega)).mono ?_; rintro e w' ⟨v, rfl, ho, hb⟩)
          | fail)
        go_ret
        exact ⟨_, rfl, ho, hb⟩
set_option maxHeartbeats 400000 in
set_option maxRecDepth 100000 in
theorem nonce16_calls (i : Int) (last : Bool) (w : World) (hi : 0 ≤ i ∧ i < 4294967296) :
    Calls Tryd.prog 27 #[.int .u32 i, .bool last] w fun e w' => e = .returned (.agg (ints .u8 (nonceOf i last)).toArray) ∧ Below w.heap.size w w' := by
  cases last
  · go_enter Tryd.func27, Tryd.ntmps27
    go_wp2_with (first
    | (refine store_blk rfl 47 _ _ rfl g1 (ints .u8 [0, 0, 0, 0, 0, 0, 0, i / 16777216, i / 65536 % 256, i / 256 % 256, i % 256, 0]) rfl rfl 47 _ hb1'' 12 infoN12 (by simp [ints]) (by simp [ints]) (ints_one _ _) ?_)
    | (refine load_blk rfl 47 _ rfl g2 rfl 47 _ hb4 12 5 undN12 (by simp [ints]) infoN12 ?_)
    | (refine store_blk rfl 47 _ _ rfl g2 (ints .u8 [0, 0, 0, 0, 0, 0, 0, i / 16777216, i / 65536 % 256, i / 256 % 256, i % 256, 0]) rfl rfl 47 _ hb2 12 infoN12 (by simp [ints]) (by simp [ints]) (ints_one _ _) ?_
       have hb3 := hb2.setRow (ints .u8 [0, 0, 0, 0, 0, 0, 0, i / 16777216, i / 65536 % 256, i / 256 % 256, i % 256, 0])
       have hb1' := (hb1.belowAll hB2).setRowOther (g' := g2) (by have := hb1.lt; omega) (ints .u8 [0, 0, 0, 0, 0, 0, 0, i / 16777216, i / 65536 % 256, i / 256 % 256, i % 256, 0]).toArray
       have hB3 := below_setRow (below_then hB1 hB1.size hB2) (g := g2) (by have := hB1.size; omega) (ints .u8 [0, 0, 0, 0, 0, 0, 0, i / 16777216, i / 65536 % 256, i / 256 % 256, i % 256, 0]).toArray
       generalize World.setRow w2 _ _ = w3 at *
       have hb4 := hb3
       have hb1'' := hb1'
       have hB4 := hB3)
    | (have hx := hb1; refine alloc_blk rfl 47 rfl _ rfl (ints .u8 (List.replicate 12 0)) zeroN12 ?_; clear hx; intro g2 w2 hg2 hb2 hB2 hs2)
    | (refine alloc_blk rfl 47 rfl _ rfl (ints .u8 (List.replicate 12 0)) zeroN12 ?_; intro g1 w1 hg1 hb1 hB1 hs1)
    | fail)
    refine bodyPost_ret (results_blk rfl _ _ g1 47 _ 12 5 rfl (hb1''.setRow (ints .u8 [0, 0, 0, 0, 0, 0, 0, i / 16777216, i / 65536 % 256, i / 256 % 256, i % 256, 0])) undN12 (by simp [ints]) infoN12) rfl ?_
    exact ⟨rfl, below_setRow hB4 (by omega) _⟩
  · go_enter Tryd.func27, Tryd.ntmps27
    go_wp2_with (first
    | (refine store_blk rfl 47 _ _ rfl g1 (ints .u8 [0, 0, 0, 0, 0, 0, 0, i / 16777216, i / 65536 % 256, i / 256 % 256, i % 256, 1]) rfl rfl 47 _ hb1'' 12 infoN12 (by simp [ints]) (by simp [ints]) (ints_one _ _) ?_)
    | (refine load_blk rfl 47 _ rfl g2 rfl 47 _ hb4 12 5 undN12 (by simp [ints]) infoN12 ?_)
    | (refine store_blk rfl 47 _ _ rfl g2 (ints .u8 [0, 0, 0, 0, 0, 0, 0, i / 16777216, i / 65536 % 256, i / 256 % 256, i % 256, 0]) rfl rfl 47 _ hb2 12 infoN12 (by simp [ints]) (by simp [ints]) (ints_one _ _) ?_
       have hb3 := hb2.setRow (ints .u8 [0, 0, 0, 0, 0, 0, 0, i / 16777216, i / 65536 % 256, i / 256 % 256, i % 256, 0])
       have hb1' := (hb1.belowAll hB2).setRowOther (g' := g2) (by have := hb1.lt; omega) (ints .u8 [0, 0, 0, 0, 0, 0, 0, i / 16777216, i / 65536 % 256, i / 256 % 256, i % 256, 0]).toArray
       have hB3 := below_setRow (below_then hB1 hB1.size hB2) (g := g2) (by have := hB1.size; omega) (ints .u8 [0, 0, 0, 0, 0, 0, 0, i / 16777216, i / 65536 % 256, i / 256 % 256, i % 256, 0]).toArray
       generalize World.setRow w2 _ _ = w3 at *
       have fx := hb3.frozen 11
       have cx := hb3.cellI 11 (by simp)
       have hb4 : Blk (w3.setCell ⟨g2, 11, none⟩ (.int .u8 1)) g2 47 (ints .u8 [0, 0, 0, 0, 0, 0, 0, i / 16777216, i / 65536 % 256, i / 256 % 256, i % 256, 1]) := hb3.setI 11 1
       have hb1'' : Blk (w3.setCell ⟨g2, 11, none⟩ (.int .u8 1)) g1 47 (ints .u8 (List.replicate 12 0)) := hb1'.setOther (by have := hb1.lt; simp; omega) _
       have hB4 : Below w.heap.size w (w3.setCell ⟨g2, 11, none⟩ (.int .u8 1)) := hB3.setCell (by have := hB1.size; simp; omega) _)
    | (have hx := hb1; refine alloc_blk rfl 47 rfl _ rfl (ints .u8 (List.replicate 12 0)) zeroN12 ?_; clear hx; intro g2 w2 hg2 hb2 hB2 hs2)
    | (refine alloc_blk rfl 47 rfl _ rfl (ints .u8 (List.replicate 12 0)) zeroN12 ?_; intro g1 w1 hg1 hb1 hB1 hs1)
    | fail)
    refine bodyPost_ret (results_blk rfl _ _ g1 47 _ 12 5 rfl (hb1''.setRow (ints .u8 [0, 0, 0, 0, 0, 0, 0, i / 16777216, i / 65536 % 256, i / 256 % 256, i % 256, 1])) undN12 (by simp [ints]) infoN12) rfl ?_
    exact ⟨rfl, below_setRow hB4 (by omega) _⟩
set_option maxHeartbeats 400000 in
set_option maxRecDepth 100000 in
theorem sseal16_calls (key : List Int) (i : Int) (last : Bool) (b : List Int) (A : Option Addr) (n c : Nat) (w : World) (hk : key.length = 32) (rk : bytesOk key) (hi : 0 ≤ i ∧ i < 4294967296)
    (hn : n = b.length) (hr : Rd w A .u8 b) (rb : bytesOk b) (hlb : b.length ≤ 100000) :
    Calls Tryd.prog 16 #[.agg (ints .u8 key).toArray, .int .u32 i, .bool last, .slice A n c] w fun e w' => ∃ v, e = .returned v ∧ Own w' w.heap.size 5 .u8 v (ssealText key i last b) ∧ Below w.heap.size w w' := by
  subst hn
  go_enter Tryd.func16, Tryd.ntmps16
  go_wp2_with (first
    | (refine box_blk rfl 23 _ rfl _ rfl (ints .u8 key) rfl ?_; intro g4 w1 hg4 hb4 hB1 hs1; clear hg4 hs1)
    | fail)
  refine wp_region_facts (ix := [[0], [1], [2], [3], [4], [5], [6]]) (S := fun w' => Blk w' g4 23 (ints .u8 key) ∧ Below w.heap.size w w')
    (R := fun w1 w2 => Below w1.heap.size w1 w2)
    (p := fun j vs w' => match j with
      | 0 => vs 0 = .agg (ints .u8 key).toArray
      | 1 => vs 1 = .int .u32 i
      | 2 => vs 2 = .bool last
      | 3 => vs 3 = .agg (ints .u8 (nonceOf i last)).toArray
      | 4 => vs 4 = .slice A b.length c
      | 5 => Own w' w.heap.size 5 .u8 (vs 5) (ssealText key i last b)
      | 6 => Own w' w.heap.size 5 .u8 (vs 6) (ssealText key i last b)
      | _ => True)
    (by kernel_rfl) (by kernel_rfl) ?_ ?_ ?_ ?_
  · exact ⟨hb4.drew, below_drewN hB1 1⟩
  · intro j vs w1 w2 hR h
    match j with
    | 0 | 1 | 2 | 3 | 4 => exact h
    | 5 => exact Own.below h hR
    | 6 => exact Own.below h hR
    | n + 7 => trivial
  · refine ⟨?_, ?_, ?_, ?_, ?_, ?_, ?_, trivial⟩
    · (intro vs w2 hS hd; simp [Region.binds, Fact.at] at hd; simp only [fill, List.take_succ_cons, List.take_zero, Act.put, List.setIfInBounds_toArray, List.set_cons_zero, List.set_cons_succ, Nat.reduceAdd])
      try simp only [hd]
      go_wp2_with (first
        | (refine load_blk rfl 23 _ rfl g4 rfl 23 _ hS.1 32 5 arr23 (by simp [ints, hk]) info23 ?_)
        | fail)
      exact ⟨rfl, rfl, hS, Below.refl _ _⟩
    · (intro vs w2 hS hd; simp [Region.binds, Fact.at] at hd; simp only [fill, List.take_succ_cons, List.take_zero, Act.put, List.setIfInBounds_toArray, List.set_cons_zero, List.set_cons_succ, Nat.reduceAdd])
      try simp only [hd]
      go_wp2_with fail
      exact ⟨rfl, rfl, hS, Below.refl _ _⟩
    · (intro vs w2 hS hd; simp [Region.binds, Fact.at] at hd; simp only [fill, List.take_succ_cons, List.take_zero, Act.put, List.setIfInBounds_toArray, List.set_cons_zero, List.set_cons_succ, Nat.reduceAdd])
      try simp only [hd]
      go_wp2_with fail
      exact ⟨rfl, rfl, hS, Below.refl _ _⟩
    · (intro vs w2 hS hd; simp [Region.binds, Fact.at] at hd; simp only [fill, List.take_succ_cons, List.take_zero, Act.put, List.setIfInBounds_toArray, List.set_cons_zero, List.set_cons_succ, Nat.reduceAdd])
      simp only [hd]
      go_wp2_with (first
        | (go_at_call 27; refine (nonce16_calls i last w2 hi).mono ?_; rintro e w3 ⟨rfl, hB⟩)
        | fail)
      exact ⟨rfl, rfl, ⟨hS.1.belowAll hB, below_then hS.2 hS.2.size hB⟩, hB⟩
    · (intro vs w2 hS hd; simp [Region.binds, Fact.at] at hd; simp only [fill, List.take_succ_cons, List.take_zero, Act.put, List.setIfInBounds_toArray, List.set_cons_zero, List.set_cons_succ, Nat.reduceAdd])
      try simp only [hd]
      go_wp2_with fail
      exact ⟨rfl, rfl, hS, Below.refl _ _⟩
    · (intro vs w2 hS hd; simp [Region.binds, Fact.at] at hd; simp only [fill, List.take_succ_cons, List.take_zero, Act.put, List.setIfInBounds_toArray, List.set_cons_zero, List.set_cons_succ, Nat.reduceAdd])
      simp only [hd]
      go_wp2_with (first
        | (go_at_call 26; refine (seal1_calls key (nonceOf i last) [] b none A 0 c 0 b.length w2 hk (nonceOf_length _ _) rk (nonceOf_ok i last hi) rfl (Rd.nil _ _ _) (fun j => by simp [rd]) rfl (hr.below hS.2) rb (by simp) hlb).mono ?_; rintro e w3 ⟨v, rfl, ho, hB⟩)
        | fail)
      exact ⟨rfl, ho.lower hS.2.size, ⟨hS.1.belowAll hB, below_then hS.2 hS.2.size hB⟩, hB⟩
    · (intro vs w2 hS hd; simp [Region.binds, Fact.at] at hd; simp only [fill, List.take_succ_cons, List.take_zero, Act.put, List.setIfInBounds_toArray, List.set_cons_zero, List.set_cons_succ, Nat.reduceAdd])
      go_wp2_with fail
      exact ⟨rfl, hd.1, hS, Below.refl _ _⟩
  · intro vs wq hf hS
    have h6 : Own wq w.heap.size 5 .u8 (vs 6) (ssealText key i last b) := hf 6 (by simp)
    simp only [fill, Act.put, List.setIfInBounds_toArray, List.set_cons_zero, List.set_cons_succ, Nat.reduceAdd]
    clear hf
    go_wp2_with fail
    go_ret
    exact ⟨_, rfl, h6, hS.2⟩
/-- The number of what opening tells. -/
def codeR : List Int ⊕ Nat → Int
  | .inl _ => 0
  | .inr j => 101 + (j : Int)
theorem Opened1.v {w' : World} {base : Nat} {r : List Int ⊕ Nat} {v : Value} {k : Int} (h : Opened1 w' base r v k) : OpV w' base r v := by cases r <;> exact h.2
theorem Opened1.n {w' : World} {base : Nat} {r : List Int ⊕ Nat} {v : Value} {k : Int} (h : Opened1 w' base r v k) : k = codeR r := by cases r <;> exact h.1
theorem opened1 {w' : World} {base : Nat} {r : List Int ⊕ Nat} {v : Value} (h : OpV w' base r v) : Opened1 w' base r v (codeR r) := by cases r <;> exact ⟨rfl, h⟩
set_option maxHeartbeats 400000 in
set_option maxRecDepth 100000 in
theorem sopen16_calls (key : List Int) (i : Int) (last : Bool) (b : List Int) (A : Option Addr) (n c : Nat) (w : World) (hk : key.length = 32) (rk : bytesOk key) (hi : 0 ≤ i ∧ i < 4294967296)
    (hn : n = b.length) (hc : n ≤ c) (hr : Rd w A .u8 b) (rb : bytesOk b) (hlb : b.length ≤ 100000) :
    Calls Tryd.prog 18 #[.agg (ints .u8 key).toArray, .int .u32 i, .bool last, .slice A n c] w fun e w' => ∃ v, e = .returned (.tuple #[v, .int .i64 (codeR (openOf key (nonceOf i last) [] b))]) ∧ Opened1 w' w.heap.size (openOf key (nonceOf i last) [] b) v (codeR (openOf key (nonceOf i last) [] b)) ∧ Below w.heap.size w w' := by
  obtain ⟨r, hr0⟩ : ∃ r, Hd (openOf key (nonceOf i last) [] b = r) := ⟨_, ⟨rfl⟩⟩
  rw [hr0.out]
  have HN := hid hn
  clear hn
  go_enter Tryd.func18, Tryd.ntmps18
  go_wp2_with (first
    | (refine box_blk rfl 23 _ rfl _ rfl (ints .u8 key) rfl ?_; intro g4 w1 hg4 hb4 hB1 hs1; clear hg4 hs1)
    | fail)
  refine wp_region_facts (ix := [[0], [1], [2], [3], [4], [5], [6], [7], [8], [9]]) (S := fun w' => Blk w' g4 23 (ints .u8 key) ∧ Below w.heap.size w w')
    (R := fun w1 w2 => Below w1.heap.size w1 w2)
    (p := fun jO vs w' => match jO with
      | 0 => vs 0 = .agg (ints .u8 key).toArray
      | 1 => vs 1 = .int .u32 i
      | 2 => vs 2 = .bool last
      | 3 => vs 3 = .agg (ints .u8 (nonceOf i last)).toArray
      | 4 => vs 4 = .slice A n c
      | 5 => ∃ v, vs 5 = .tuple #[v, .int .i64 (codeR r)] ∧ OpV w' w.heap.size r v
      | 6 => OpV w' w.heap.size r (vs 6)
      | 7 => vs 7 = .int .i64 (codeR r)
      | 8 => OpV w' w.heap.size r (vs 8)
      | 9 => vs 9 = .int .i64 (codeR r)
      | _ => True)
    (by kernel_rfl) (by kernel_rfl) ?_ ?_ ?_ ?_
  · exact ⟨hb4.drew, below_drewN hB1 1⟩
  · intro jO vs w1 w2 hR h
    match jO with
    | 0 | 1 | 2 | 3 | 4 | 7 | 9 => exact h
    | 5 => obtain ⟨v, h1, h2⟩ := h; exact ⟨v, h1, h2.below hR⟩
    | 6 => exact OpV.below h hR
    | 8 => exact OpV.below h hR
    | nO + 10 => trivial
  · refine ⟨?_, ?_, ?_, ?_, ?_, ?_, ?_, ?_, ?_, ?_, trivial⟩
    · (intro vs w2 hS hd; simp [Region.binds, Fact.at] at hd; simp only [fill, List.take_succ_cons, List.take_zero, Act.put, List.setIfInBounds_toArray, List.set_cons_zero, List.set_cons_succ, Nat.reduceAdd])
      try simp only [hd]
      go_wp2_with (first
        | (refine load_blk rfl 23 _ rfl g4 rfl 23 _ hS.1 32 5 arr23 (by simp [ints, hk]) info23 ?_)
        | fail)
      exact ⟨rfl, rfl, hS, Below.refl _ _⟩
    · (intro vs w2 hS hd; simp [Region.binds, Fact.at] at hd; simp only [fill, List.take_succ_cons, List.take_zero, Act.put, List.setIfInBounds_toArray, List.set_cons_zero, List.set_cons_succ, Nat.reduceAdd])
      try simp only [hd]
      go_wp2_with fail
      exact ⟨rfl, rfl, hS, Below.refl _ _⟩
    · (intro vs w2 hS hd; simp [Region.binds, Fact.at] at hd; simp only [fill, List.take_succ_cons, List.take_zero, Act.put, List.setIfInBounds_toArray, List.set_cons_zero, List.set_cons_succ, Nat.reduceAdd])
      try simp only [hd]
      go_wp2_with fail
      exact ⟨rfl, rfl, hS, Below.refl _ _⟩
    · (intro vs w2 hS hd; simp [Region.binds, Fact.at] at hd; simp only [fill, List.take_succ_cons, List.take_zero, Act.put, List.setIfInBounds_toArray, List.set_cons_zero, List.set_cons_succ, Nat.reduceAdd])
      simp only [hd]
      go_wp2_with (first
        | (go_at_call 27; refine (nonce16_calls i last w2 hi).mono ?_; rintro e w3 ⟨rfl, hB⟩)
        | fail)
      exact ⟨rfl, rfl, ⟨hS.1.belowAll hB, below_then hS.2 hS.2.size hB⟩, hB⟩
    · (intro vs w2 hS hd; simp [Region.binds, Fact.at] at hd; simp only [fill, List.take_succ_cons, List.take_zero, Act.put, List.setIfInBounds_toArray, List.set_cons_zero, List.set_cons_succ, Nat.reduceAdd])
      try simp only [hd]
      go_wp2_with fail
      exact ⟨rfl, rfl, hS, Below.refl _ _⟩
    · (intro vs w2 hS hd; simp [Region.binds, Fact.at] at hd; simp only [fill, List.take_succ_cons, List.take_zero, Act.put, List.setIfInBounds_toArray, List.set_cons_zero, List.set_cons_succ, Nat.reduceAdd])
      simp only [hd]
      go_wp2_with (first
        | (go_at_call 29; refine (open1_calls key (nonceOf i last) [] b none A 0 c 0 n w2 hk (nonceOf_length _ _) rk (nonceOf_ok i last hi) rfl (Rd.nil _ _ _) (fun j => by simp [rd]) HN.out hc (hr.below hS.2) rb (by simp) hlb).mono ?_; rintro e w3 ⟨v, kk, rfl, hop, hB⟩; rw [hr0.out] at hop; (have hkk := hop.n); subst hkk)
        | fail)
      exact ⟨rfl, ⟨v, rfl, hop.v.lower hS.2.size⟩, ⟨hS.1.belowAll hB, below_then hS.2 hS.2.size hB⟩, hB⟩
    · (intro vs w2 hS hd; simp [Region.binds, Fact.at] at hd; simp only [fill, List.take_succ_cons, List.take_zero, Act.put, List.setIfInBounds_toArray, List.set_cons_zero, List.set_cons_succ, Nat.reduceAdd])
      obtain ⟨v, h1, h2⟩ := hd
      simp only [h1]
      go_wp2_with fail
      exact ⟨rfl, h2, hS, Below.refl _ _⟩
    · (intro vs w2 hS hd; simp [Region.binds, Fact.at] at hd; simp only [fill, List.take_succ_cons, List.take_zero, Act.put, List.setIfInBounds_toArray, List.set_cons_zero, List.set_cons_succ, Nat.reduceAdd])
      obtain ⟨v, h1, h2⟩ := hd
      simp only [h1]
      go_wp2_with fail
      exact ⟨rfl, rfl, hS, Below.refl _ _⟩
    · (intro vs w2 hS hd; simp [Region.binds, Fact.at] at hd; simp only [fill, List.take_succ_cons, List.take_zero, Act.put, List.setIfInBounds_toArray, List.set_cons_zero, List.set_cons_succ, Nat.reduceAdd])
      go_wp2_with fail
      exact ⟨rfl, hd.1, hS, Below.refl _ _⟩
    · (intro vs w2 hS hd; simp [Region.binds, Fact.at] at hd; simp only [fill, List.take_succ_cons, List.take_zero, Act.put, List.setIfInBounds_toArray, List.set_cons_zero, List.set_cons_succ, Nat.reduceAdd])
      try simp only [hd]
      go_wp2_with fail
      exact ⟨rfl, rfl, hS, Below.refl _ _⟩
  · intro vs wq hf hS
    have h8 : OpV wq w.heap.size r (vs 8) := hf 8 (by simp)
    have h9 : vs 9 = .int .i64 (codeR r) := hf 9 (by simp)
    simp only [fill, Act.put, List.setIfInBounds_toArray, List.set_cons_zero, List.set_cons_succ, Nat.reduceAdd]
    clear hf
    go_wp2_with fail
    refine bodyPost_ret (results_tmp2 rfl _ _ rfl rfl) rfl ?_
    exact ⟨_, by rw [h9]; rfl, opened1 h8, hS.2⟩
end Go.Proofs.YtenjpmegnjdobaaDoor
/- Memory in parts: what may change, what is read where; many things side by side. -/
namespace Go.Cour
open Go.RowKit
/-- Of the blocks that w has, those of F alone may differ in w'. -/
structure Upd (F : Nat → Prop) (w w' : World) : Prop where
  os : w'.os = w.os
  tape : w'.tape = w.tape
  output : w'.output = w.output
  size : w.heap.size ≤ w'.heap.size
  block : ∀ k, k < w.heap.size → ¬ F k → w'.heap[k]? = w.heap[k]?
def NoF : Nat → Prop := fun _ => False
section
variable {F G : Nat → Prop} {w w1 w2 w' : World}
theorem Upd.refl (F : Nat → Prop) (w : World) : Upd F w w := ⟨rfl, rfl, rfl, Nat.le_refl _, fun _ _ _ => rfl⟩
theorem Upd.trans (h : Upd F w w1) (k : Upd G w1 w2) (hG : ∀ j, j < w.heap.size → G j → F j) : Upd F w w2 :=
  ⟨k.os.trans h.os, k.tape.trans h.tape, k.output.trans h.output, Nat.le_trans h.size k.size, fun j hj hf =>
    (k.block j (Nat.lt_of_lt_of_le hj h.size) (fun hg => hf (hG j hj hg))).trans (h.block j hj hf)⟩
theorem Upd.mono (h : Upd F w w1) (hG : ∀ j, j < w.heap.size → F j → G j) : Upd G w w1 :=
  ⟨h.os, h.tape, h.output, h.size, fun j hj hf => h.block j hj (fun hF => hf (hG j hj hF))⟩
theorem Upd.of_below (h : Below w.heap.size w w1) (F : Nat → Prop) : Upd F w w1 := ⟨h.os, h.tape, h.output, h.size, fun j hj _ => h.block j hj⟩
theorem Upd.below {B : Nat} (h : Upd F w w1) (hB : B ≤ w.heap.size) (hF : ∀ j, F j → B ≤ j) : Below B w w1 :=
  ⟨h.os, h.tape, h.output, h.size, fun j hj => h.block j (by omega) (fun hf => by have := hF j hf; omega)⟩
theorem Upd.below_on {B : Nat} {w0 : World} (hb : Below B w0 w) (hB : B ≤ w.heap.size) (h : Upd F w w1) (hF : ∀ j, F j → B ≤ j) : Below B w0 w1 := hb.trans (h.below hB hF)
theorem Upd.of_grown {row : Option Nat} (h : w.grownBy w1 row) : Upd (fun j => row = some j) w w1 :=
  ⟨h.os, h.tape, h.output, h.size, fun j hj hf => h.block j hj (fun he => hf he.symm)⟩
theorem Upd.setCell (w : World) (a : Addr) (v : Value) : Upd (fun j => j = a.block) w (w.setCell a v) :=
  ⟨rfl, rfl, rfl, by simp [World.setCell], fun j _ hf => Below.heap_setCell _ _ _ _ hf⟩
theorem Upd.alloc (w : World) (o : Obj) (F : Nat → Prop) : Upd F w (w.alloc o) := Upd.of_below ((Below.refl _ _).alloc (Nat.le_refl _) _) F
theorem Upd.setRow (w : World) (g : Nat) (cs : Array Value) : Upd (fun j => j = g) w (w.setRow g cs) :=
  ⟨rfl, rfl, rfl, by simp, fun j _ hf => setRow_other w g j cs hf⟩
theorem Upd.drewN (h : Upd F w w1) (n : Nat) : Upd F w (w1.drewN n) := ⟨h.os, h.tape, h.output, h.size, h.block⟩
theorem Upd.drew (h : Upd F w w1) : Upd F w w1.drew := ⟨h.os, h.tape, h.output, h.size, h.block⟩
/-- A block that is not among those that may change. -/
theorem Blk.upd {g : Nat} {t : TypeId} {cs : List Value} (h : Blk w g t cs) (hu : Upd F w w1) (hg : ¬ F g) : Blk w1 g t cs := (hu.block g h.lt hg).trans h
theorem Rd.upd {A : Option Addr} {k : IntKind} {xs : List Int} (h : Rd w A k xs) (hu : Upd F w w1) (hg : ∀ a, A = some a → xs ≠ [] → ¬ F a.block) : Rd w1 A k xs := by
  rcases h with h | ⟨g, o, rfl, h⟩
  · exact .inl h
  · by_cases he : xs = []
    · exact .inl he
    · exact .inr ⟨g, o, rfl, fun i hi => by
        rw [← h i hi]
        have := hu.block g (lt_of_cell (h i hi)) (hg _ rfl he)
        simp only [World.cell?, this]⟩
end
/-- What is said of a value by the blocks F of memory. -/
structure HA (α : Type) where
  at_ : World → (Nat → Prop) → Value → α → Prop
  lt : ∀ {w F v x}, at_ w F v x → ∀ k, F k → k < w.heap.size
  kept : ∀ {w w' F v x}, at_ w F v x → (∀ k, F k → w'.heap[k]? = w.heap[k]?) → at_ w' F v x
  eqv : ∀ {w F G v x}, at_ w F v x → (∀ k, F k ↔ G k) → at_ w G v x
section
variable {α : Type} {H : HA α}
theorem HA.upd {w w' : World} {F G : Nat → Prop} {v : Value} {x : α} (h : H.at_ w F v x) (hu : Upd G w w') (hd : ∀ k, F k → ¬ G k) : H.at_ w' F v x :=
  H.kept h fun k hk => hu.block k (H.lt h k hk) (hd k hk)
theorem HA.below {w w' : World} {F : Nat → Prop} {v : Value} {x : α} (h : H.at_ w F v x) (hb : Below w.heap.size w w') : H.at_ w' F v x :=
  H.kept h fun k hk => hb.block k (H.lt h k hk)
/-- Things side by side. -/
def Star (H : HA α) (w : World) : (Nat → Prop) → List Value → List α → Prop
  | F, [], [] => ∀ k, ¬ F k
  | F, v :: vs, x :: xs => ∃ F1 F2, H.at_ w F1 v x ∧ Star H w F2 vs xs ∧ (∀ k, F1 k → ¬ F2 k) ∧ ∀ k, F k ↔ F1 k ∨ F2 k
  | _, _, _ => False
theorem Star.lt {w : World} : ∀ {F : Nat → Prop} {vs : List Value} {xs : List α}, Star H w F vs xs → ∀ k, F k → k < w.heap.size
  | _, [], [], h, k, hk => absurd hk (h k)
  | _, v :: vs, x :: xs, ⟨F1, F2, h1, h2, _, hF⟩, k, hk => by
    rcases (hF k).1 hk with hk | hk
    · exact H.lt h1 k hk
    · exact Star.lt h2 k hk
  | _, [], _ :: _, h, _, _ => h.elim
  | _, _ :: _, [], h, _, _ => h.elim
theorem Star.length {w : World} : ∀ {F : Nat → Prop} {vs : List Value} {xs : List α}, Star H w F vs xs → vs.length = xs.length
  | _, [], [], _ => rfl
  | _, _ :: _, _ :: _, ⟨_, _, _, h2, _, _⟩ => by simp [Star.length h2]
  | _, [], _ :: _, h => h.elim
  | _, _ :: _, [], h => h.elim
theorem Star.kept {w w' : World} : ∀ {F : Nat → Prop} {vs : List Value} {xs : List α}, Star H w F vs xs → (∀ k, F k → w'.heap[k]? = w.heap[k]?) → Star H w' F vs xs
  | _, [], [], h, _ => h
  | _, v :: vs, x :: xs, ⟨F1, F2, h1, h2, hd, hF⟩, hk => ⟨F1, F2, H.kept h1 fun k h => hk k ((hF k).2 (.inl h)), Star.kept h2 (fun k h => hk k ((hF k).2 (.inr h))), hd, hF⟩
  | _, [], _ :: _, h, _ => h.elim
  | _, _ :: _, [], h, _ => h.elim
theorem Star.eqv {w : World} : ∀ {F G : Nat → Prop} {vs : List Value} {xs : List α}, Star H w F vs xs → (∀ k, F k ↔ G k) → Star H w G vs xs
  | _, _, [], [], h, hk => fun k hg => h k ((hk k).2 hg)
  | _, _, v :: vs, x :: xs, ⟨F1, F2, h1, h2, hd, hF⟩, hk => ⟨F1, F2, h1, h2, hd, fun k => (hk k).symm.trans (hF k)⟩
  | _, _, [], _ :: _, h, _ => h.elim
  | _, _, _ :: _, [], h, _ => h.elim
theorem Star.upd {w w' : World} {F G : Nat → Prop} {vs : List Value} {xs : List α} (h : Star H w F vs xs) (hu : Upd G w w') (hd : ∀ k, F k → ¬ G k) : Star H w' F vs xs :=
  h.kept fun k hk => hu.block k (h.lt k hk) (hd k hk)
theorem Star.below {w w' : World} {F : Nat → Prop} {vs : List Value} {xs : List α} (h : Star H w F vs xs) (hb : Below w.heap.size w w') : Star H w' F vs xs :=
  h.kept fun k hk => hb.block k (h.lt k hk)
theorem Star.nil (H : HA α) (w : World) : Star H w NoF [] [] := fun _ h => h
/-- One of them; whatever it becomes, the others stand as they did. -/
theorem Star.focus {w : World} : ∀ {F : Nat → Prop} {vs : List Value} {xs : List α}, Star H w F vs xs → ∀ i, i < xs.length →
    ∃ (v : Value) (x : α) (F1 F2 : Nat → Prop), vs[i]? = some v ∧ xs[i]? = some x ∧ H.at_ w F1 v x ∧ (∀ k, F1 k → ¬ F2 k) ∧ (∀ k, F k ↔ F1 k ∨ F2 k) ∧ (∀ k, F2 k → k < w.heap.size) ∧
      ∀ w' F1' x', H.at_ w' F1' v x' → (∀ k, F1' k → ¬ F2 k) → (∀ k, F2 k → w'.heap[k]? = w.heap[k]?) → Star H w' (fun k => F1' k ∨ F2 k) vs (xs.set i x')
  | F, v :: vs, x :: xs, ⟨F1, F2, h1, h2, hd, hF⟩, 0, _ => ⟨v, x, F1, F2, rfl, rfl, h1, hd, hF, h2.lt, fun w' F1' x' h' hd' hk => ⟨F1', F2, h', h2.kept hk, hd', fun _ => Iff.rfl⟩⟩
  | F, v :: vs, x :: xs, ⟨F1, F2, h1, h2, hd, hF⟩, i + 1, hi => by
    obtain ⟨v', x', G1, G2, hv, hx, hat, hd2, hF2, hlt, hback⟩ := Star.focus h2 i (by simpa using hi)
    refine ⟨v', x', G1, fun k => F1 k ∨ G2 k, by simpa using hv, by simpa using hx, hat, fun k hk hn => ?_, fun k => ?_, fun k hk => ?_, fun w' F1' y h' hd' hk => ?_⟩
    · rcases hn with hn | hn
      · exact hd k hn ((hF2 k).2 (.inl hk))
      · exact hd2 k hk hn
    · rw [hF k, hF2 k]
      constructor
      · rintro (h | h | h)
        · exact .inr (.inl h)
        · exact .inl h
        · exact .inr (.inr h)
      · rintro (h | h | h)
        · exact .inr (.inl h)
        · exact .inl h
        · exact .inr (.inr h)
    · rcases hk with hk | hk
      · exact H.lt h1 k hk
      · exact hlt k hk
    · refine ⟨F1, fun k => F1' k ∨ G2 k, H.kept h1 fun k h => hk k (.inl h), hback w' F1' y h' (fun k h1' h2' => hd' k h1' (.inr h2')) (fun k h => hk k (.inr h)), fun k h1' h2' => ?_, fun k => ?_⟩
      · rcases h2' with h2' | h2'
        · exact hd' k h2' (.inl h1')
        · exact hd k h1' ((hF2 k).2 (.inr h2'))
      · constructor
        · rintro (h | h | h)
          · exact .inr (.inl h)
          · exact .inl h
          · exact .inr (.inr h)
        · rintro (h | h | h)
          · exact .inr (.inl h)
          · exact .inl h
          · exact .inr (.inr h)
  | _, [], [], _, _, hi => absurd hi (Nat.not_lt_zero _)
  | _, [], _ :: _, h, _, _ => h.elim
  | _, _ :: _, [], h, _, _ => h.elim
/-- One more behind them. -/
theorem Star.snoc {w : World} {v : Value} {x : α} {F1 : Nat → Prop} : ∀ {F : Nat → Prop} {vs : List Value} {xs : List α}, Star H w F vs xs → H.at_ w F1 v x → (∀ k, F k → ¬ F1 k) → Star H w (fun k => F k ∨ F1 k) (vs ++ [v]) (xs ++ [x])
  | F, [], [], h, h1, _ => ⟨F1, NoF, h1, fun _ h => h, fun _ _ h => h, fun k => ⟨fun hk => .inl (hk.resolve_left (h k)), fun hk => .inr (hk.resolve_right (fun h => h))⟩⟩
  | F, v' :: vs, x' :: xs, ⟨G1, G2, h1, h2, hd, hF⟩, h1', hdis => by
    refine ⟨G1, fun k => G2 k ∨ F1 k, h1, Star.snoc h2 h1' (fun k hk => hdis k ((hF k).2 (.inr hk))), fun k hk hn => ?_, fun k => ?_⟩
    · rcases hn with hn | hn
      · exact hd k hk hn
      · exact hdis k ((hF k).2 (.inl hk)) hn
    · show F k ∨ F1 k ↔ G1 k ∨ (G2 k ∨ F1 k)
      rw [hF k]; exact or_assoc
  | _, [], _ :: _, h, _, _ => h.elim
  | _, _ :: _, [], h, _, _ => h.elim
/-- Some of them, in their order. -/
theorem Star.part {w : World} (p : α → Bool) : ∀ {F : Nat → Prop} {vs : List Value} {xs : List α}, Star H w F vs xs → ∃ F', Star H w F' (((vs.zip xs).filter fun y => p y.2).map (·.1)) (xs.filter p) ∧ ∀ k, F' k → F k
  | F, [], [], h => ⟨F, h, fun _ h => h⟩
  | F, v :: vs, x :: xs, ⟨F1, F2, h1, h2, hd, hF⟩ => by
    obtain ⟨G, hG, hsub⟩ := Star.part p h2
    cases hp : p x with
    | false => exact ⟨G, by simpa [List.filter, hp] using hG, fun k hk => (hF k).2 (.inr (hsub k hk))⟩
    | true => exact ⟨fun k => F1 k ∨ G k, by
        simp only [List.zip_cons_cons, List.filter, hp, List.map_cons]
        exact ⟨F1, G, h1, hG, fun k h1' h2' => hd k h1' (hsub k h2'), fun _ => Iff.rfl⟩, fun k hk => (hF k).2 (hk.imp id (hsub k))⟩
  | _, [], _ :: _, h => h.elim
  | _, _ :: _, [], h => h.elim
end
theorem Own.kept' {w w' : World} {B : Nat} {e : TypeId} {k : IntKind} {v : Value} {xs : List Int} (h : Own w B e k v xs) (hk : ∀ j, v.ownBlock = some j → w'.heap[j]? = w.heap[j]?) : Own w' B e k v xs := by
  obtain ⟨h1, h2⟩ := h
  refine ⟨h1, ?_⟩
  rcases h2 with h2 | ⟨g, cap, cur, rfl, hb, hh, r⟩
  · exact .inl h2
  · exact .inr ⟨g, cap, cur, rfl, hb, (hk g rfl).trans hh, r⟩
theorem Own.lt_size {w : World} {base : Nat} {e : TypeId} {k : IntKind} {v : Value} {xs : List Int} (h : Own w base e k v xs) (j : Nat) (hj : v.ownBlock = some j) : j < w.heap.size := by
  rcases h.2 with ⟨rfl, _⟩ | ⟨g, cap, cur, rfl, hg, hh, r⟩
  · simp [Value.ownBlock] at hj
  · have : g = j := by simpa [Value.ownBlock] using hj
    subst this
    exact (Array.getElem?_eq_some_iff.1 hh).1
theorem OwnV.kept' {w w' : World} {B : Nat} {e : TypeId} {v : Value} {cs : List Value} (h : OwnV w B e v cs) (hk : ∀ j, v.ownBlock = some j → w'.heap[j]? = w.heap[j]?) : OwnV w' B e v cs := by
  obtain ⟨h1, h2⟩ := h
  refine ⟨h1, ?_⟩
  rcases h2 with h2 | ⟨g, cap, cur, rfl, hb, hh, r⟩
  · exact .inl h2
  · exact .inr ⟨g, cap, cur, rfl, hb, (hk g rfl).trans hh, r⟩
theorem OwnV.lt_size {w : World} {base : Nat} {e : TypeId} {v : Value} {cs : List Value} (h : OwnV w base e v cs) (j : Nat) (hj : v.ownBlock = some j) : j < w.heap.size := by
  rcases h.2 with ⟨rfl, _⟩ | ⟨g, cap, cur, rfl, hg, hh, r⟩
  · simp [Value.ownBlock] at hj
  · have : g = j := by simpa [Value.ownBlock] using hj
    subst this
    exact (Array.getElem?_eq_some_iff.1 hh).1
end Go.Cour
/- append(s, ..) where s is one's own: where the new slice lies. -/
namespace Go.Cour
open Go.RowKit
section
variable {P : Program} {w : World} {ops : Array Oper} {rest : List Oper} {o : Oper} {a : Act} {Q : Exit → Act → World → Prop}
/-- Where the new slice lies: where the old one did, or in a new block. -/
def Lies (v v' : Value) (w : World) : Prop := v'.ownBlock = v.ownBlock ∨ v'.ownBlock = some w.heap.size
theorem append_lies (t ty e : TypeId) (i : TypeInfo) (z : Value) (size bytes : Nat) (ht : P.underlying t = some (.slice e)) (hi : P.info? e = some i) (hz : i.zero = some z)
    (hsize : i.size = size) (hby : i.bytes = bytes)
    (v : Value) (n : Nat) (xs : List Value) (hown : w.ownsRow 0 e size v n xs)
    (ad : Addr) (m c : Nat) (news : List Value) (hl : news.length = m * size) (hnews : ∀ j u, news[j]? = some u → w.cell? (ad.add j) = some u) (h1 : ∀ u ∈ news, u.oneCell' = true)
    (h63 : n + m ≤ maxLen) (hbytes : (n + m) * bytes ≤ 140737488355328) {v' : Value} {w' : World} (hr : (Builtin.append_ #[t, t] ty #[v, .slice (some ad) m c]).run P w = .ok v' w') : Lies v v' w := by
  subst hsize
  subst hby
  have hsmall : n + m ≤ 9223372036854775807 := by simp only [maxLen] at h63; omega
  rcases hown.2 with ⟨rfl, rfl⟩ | ⟨g, cap, cur, rfl, hbg, hg, hnc, hcm, hcs, htake⟩
  · by_cases hm : m = 0
    · subst hm
      have hn : news = [] := List.eq_nil_of_length_eq_zero (by simpa using hl)
      subst hn
      simp [Builtin.append_, run_underlying ht, sizeOf, typeInfo, hi, Builtin.lenOf, Builtin.firstCells, loadCells, loadCellsFrom] at hr
      exact .inl (by rw [← hr.1])
    · have hr2 := run_append_nil (P := P) w t ty e i z ht hi hz ad m c news hl hnews (by omega) (by omega) (by have hb := hbytes; simp only [Nat.zero_add] at hb; omega)
      rw [hr2] at hr
      injection hr with hr _
      exact .inr (by rw [← hr]; rfl)
  · by_cases hroom : n + m ≤ cap
    · have hfit : n * i.size + news.length ≤ cur.size := by rw [hl, hcs, ← Nat.add_mul]; exact Nat.mul_le_mul_right _ hroom
      have hr2 := run_append_room (P := P) w t ty e i ht hi g n cap cur hg ad m c news hl hnews h1 hroom hfit
      rw [hr2] at hr
      injection hr with hr _
      exact .inl (by rw [← hr]; rfl)
    · have holds : ∀ j u, xs[j]? = some u → w.cell? ((⟨g, 0, none⟩ : Addr).add j) = some u := hown.cells (g := g) rfl
      have hr2 := run_append_grow (P := P) w t ty e i z ht hi hz ⟨g, 0, none⟩ n cap xs hown.1 holds ad m c news hl hnews (by omega) (by omega) (growslice_fits (by omega) hbytes)
      rw [hr2] at hr
      injection hr with hr _
      exact .inr (by rw [← hr]; rfl)
theorem app_row (hw : Region.wanted o (yielded ops a.tmps) = true) (s x : Operand) (t : TypeId)
    (ho : o.op = .call { callee := .builtin .append, args := #[s, x], argTypes := #[t, t] })
    (e : TypeId) (i : TypeInfo) (z : Value) (size bytes : Nat) (ht : P.underlying t = some (.slice e)) (hi : P.info? e = some i) (hz : i.zero = some z)
    (hsize : i.size = size) (hby : i.bytes = bytes) (hzs : z.cells.size = size) (hsz : 0 < size)
    (v : Value) (n : Nat) (xs : List Value) (hs : a.eval s = v) (hown : w.ownsRow 0 e size v n xs)
    (ad : Addr) (m c : Nat) (news : List Value) (hx : a.eval x = .slice (some ad) m c) (hl : news.length = m * size) (hnews : ∀ j u, news[j]? = some u → w.cell? (ad.add j) = some u) (h1 : ∀ u ∈ news, u.oneCell' = true)
    (h63 : n + m ≤ maxLen) (hbytes : (n + m) * bytes ≤ 140737488355328)
    (h : ∀ v' w', w'.ownsRow 0 e size v' (n + m) (xs ++ news) → w.grownBy w' v.ownBlock → Lies v v' w → wpList P ops Q rest (a.put o.dst v') w') : wpList P ops Q (o :: rest) a w := by
  refine wpList_step fun K hK => ?_
  rw [if_pos hw]
  obtain ⟨v', w', hr, h2, h3, _⟩ := run_append_own (P := P) w 0 t o.type e i z size bytes ht hi hz hsize hby hzs hsz v n xs hown ad m c news hl hnews h1 h63 hbytes (Nat.zero_le _)
  have h4 := append_lies (P := P) (w := w) t o.type e i z size bytes ht hi hz hsize hby v n xs hown ad m c news hl hnews h1 h63 hbytes hr
  unfold Oper.wp execOp
  simp only [ho, resolve, invoke, builtin, Sem.run_bind, Sem.run_pure, Result.andThen_ok, List.map_toArray, List.map_cons, List.map_nil, hs, hx, hr]
  exact hK _ _ (h v' w' h2 h3 h4)
/-- One value of one cell more. -/
theorem app_val (hw : Region.wanted o (yielded ops a.tmps) = true) (s x : Operand) (t : TypeId)
    (ho : o.op = .call { callee := .builtin .append, args := #[s, x], argTypes := #[t, t] })
    (e : TypeId) (bytes : Nat) (ht : P.underlying t = some (.slice e)) (hi : (P.info? e).map (fun i => (i.zero.map (·.cells.size), i.size, i.bytes)) = some (some 1, 1, bytes))
    (v : Value) (cs : List Value) (hs : a.eval s = v) (hown : OwnV w 0 e v cs)
    (g : Nat) (u : Value) (hx : a.eval x = .slice (some ⟨g, 0, none⟩) 1 1) (hg : Blk w g e [u]) (h1 : u.oneCell' = true)
    (hbytes : (cs.length + 1) * bytes ≤ 140737488355328) (h63 : cs.length + 1 ≤ 140737488355328)
    (h : ∀ v' w', OwnV w' 0 e v' (cs ++ [u]) → w.grownBy w' v.ownBlock → Lies v v' w → wpList P ops Q rest (a.put o.dst v') w') :
    wpList P ops Q (o :: rest) a w := by
  cases hie : P.info? e with
  | none => simp [hie] at hi
  | some i =>
    cases hz : i.zero with
    | none => simp [hie, hz] at hi
    | some z =>
      simp [hie, hz] at hi
      refine app_row hw s x t ho e i z 1 bytes ht hie hz hi.2.1 hi.2.2 (by simpa using hi.1) (by omega) v cs.length cs hs hown ⟨g, 0, none⟩ 1 1 [u] hx (by simp) ?_ ?_ (by unfold maxLen; omega) hbytes ?_
      · intro j u' hj
        rw [add_lit, Nat.zero_add, hg.cell]
        exact hj
      · intro u' hu'
        obtain rfl := List.mem_singleton.1 hu'
        exact h1
      · intro v' w' h2 h3 h4
        refine h v' w' ?_ h3 h4
        unfold OwnV
        rw [List.length_append]
        exact h2
/-- Numbers more. -/
theorem app_ints (hw : Region.wanted o (yielded ops a.tmps) = true) (s x : Operand) (t : TypeId)
    (ho : o.op = .call { callee := .builtin .append, args := #[s, x], argTypes := #[t, t] })
    (e : TypeId) (k : IntKind) (bytes : Nat) (ht : P.underlying t = some (.slice e)) (hi : (P.info? e).map (fun i => (i.zero, i.size, i.bytes)) = some (some (.int k 0), 1, bytes))
    (v : Value) (xs : List Int) (hs : a.eval s = v) (hown : Own w 0 e k v xs)
    (A : Option Addr) (m c : Nat) (ys : List Int) (hx : a.eval x = .slice A m c) (hm : m = ys.length) (hA : A = none → c = 0) (hr : Rd w A k ys)
    (hbytes : (xs.length + ys.length) * bytes ≤ 140737488355328) (h63 : xs.length + ys.length ≤ 140737488355328)
    (h : ∀ v' w', Own w' 0 e k v' (xs ++ ys) → w.grownBy w' v.ownBlock → Lies v v' w → wpList P ops Q rest (a.put o.dst v') w') : wpList P ops Q (o :: rest) a w := by
  obtain ⟨i, hi0, hz0, hz1, hz2⟩ := info_parts hi
  subst hm
  have h1 : ∀ u ∈ ints k ys, u.oneCell' = true := by
    intro u hu
    obtain ⟨y, _, rfl⟩ := List.mem_map.1 hu
    rfl
  cases A with
  | none =>
    have hy : ys = [] := by
      rcases hr with hr | ⟨g, o, he, _⟩
      · exact hr
      · cases he
    subst hy
    obtain rfl := hA rfl
    refine wpList_step fun K hK => ?_
    rw [if_pos hw]
    have hrun := run_append_owned_none (P := P) (w := w) 0 t o.type e i 1 ht hi0 v xs.length (ints k xs) hown
    unfold Oper.wp
    simp [execOp, ho, resolve, invoke, builtin, hs, hx, hrun, Result.andThen]
    refine hK _ _ (h v w ?_ (World.grownBy.refl _ _) (.inl rfl))
    rw [List.append_nil]
    exact hown
  | some ad =>
    refine app_row hw s x t ho e i (.int k 0) 1 bytes ht hi0 hz0 hz1 hz2 rfl (by decide) v xs.length (ints k xs) hs hown ad ys.length c (ints k ys) hx (by simp) ?_ h1 (by unfold maxLen; omega) hbytes ?_
    · intro j u hj
      rcases hr with hr | ⟨g, o', he, hr⟩
      · subst hr; simp [ints] at hj
      · injection he with he
        subst he
        have hjl : j < ys.length := by
          have := (List.getElem?_eq_some_iff.1 hj).1
          simpa using this
        rw [ints_get k ys j hjl] at hj
        injection hj with hj
        subst hj
        rw [add_lit]
        exact hr j hjl
    · intro v' w' ho' hg' h4
      refine h v' w' ?_ hg' h4
      unfold Own
      rw [List.length_append, ints_append]
      exact ho'
end
end Go.Cour
/- Memory as a list of things side by side; what a call may change. -/
namespace Go.Cour
open Go.RowKit
/-- Something that is said of some blocks of memory. -/
structure Ent where
  F : Nat → Prop
  p : World → Prop
  lt : ∀ {w}, p w → ∀ k, F k → k < w.heap.size
  kept : ∀ {w w'}, p w → (∀ k, F k → w'.heap[k]? = w.heap[k]?) → p w'
def Ent.blk (g : Nat) (t : TypeId) (cs : List Value) : Ent where
  F := fun k => k = g
  p := fun w => Blk w g t cs
  lt := fun h k hk => hk ▸ h.lt
  kept := fun h hk => (hk g rfl).trans h
def Ent.own (e : TypeId) (k : IntKind) (v : Value) (xs : List Int) : Ent where
  F := fun j => v.ownBlock = some j
  p := fun w => Own w 0 e k v xs
  lt := fun h j hj => h.lt_size j hj
  kept := fun h hk => h.kept' hk
def Ent.ownV (e : TypeId) (v : Value) (cs : List Value) : Ent where
  F := fun j => v.ownBlock = some j
  p := fun w => OwnV w 0 e v cs
  lt := fun h j hj => h.lt_size j hj
  kept := fun h hk => h.kept' hk
def Ent.ha {α : Type} (H : HA α) (F : Nat → Prop) (v : Value) (x : α) : Ent where
  F := F
  p := fun w => H.at_ w F v x
  lt := fun h k hk => H.lt h k hk
  kept := fun h hk => H.kept h hk
/-- Things side by side. -/
def Mem (w : World) : List Ent → Prop
  | [] => True
  | e :: L => e.p w ∧ (∀ f ∈ L, ∀ k, e.F k → ¬ f.F k) ∧ Mem w L
section
variable {w w' : World} {L : List Ent} {e e' : Ent}
theorem Mem.get : ∀ {L : List Ent} {i : Nat} {e : Ent}, Mem w L → L[i]? = some e → e.p w
  | _ :: _, 0, _, h, hi => by simp at hi; exact hi ▸ h.1
  | _ :: L, i + 1, _, h, hi => Mem.get h.2.2 (by simpa using hi)
  | [], _, _, _, hi => by simp at hi
theorem Mem.keptAll : ∀ {L : List Ent}, Mem w L → (∀ e ∈ L, ∀ k, e.F k → w'.heap[k]? = w.heap[k]?) → Mem w' L
  | [], _, _ => trivial
  | e :: _, h, hk => ⟨e.kept h.1 (hk e (by simp)), h.2.1, Mem.keptAll h.2.2 fun f hf => hk f (by simp [hf])⟩
theorem Mem.lt (h : Mem w L) (he : e ∈ L) (k : Nat) (hk : e.F k) : k < w.heap.size := by
  obtain ⟨i, hi⟩ := List.getElem?_of_mem he
  exact e.lt (h.get hi) k hk
theorem Mem.apart : ∀ {L : List Ent} {i j : Nat} {e f : Ent}, Mem w L → L[i]? = some e → L[j]? = some f → i ≠ j → ∀ k, e.F k → ¬ f.F k
  | _ :: _, 0, 0, _, _, _, _, _, hn => absurd rfl hn
  | _ :: L, 0, j + 1, e, f, h, hi, hj, _ => by
    simp at hi hj; subst hi
    exact h.2.1 f (List.mem_of_getElem? hj)
  | _ :: L, i + 1, 0, e, f, h, hi, hj, _ => by
    simp at hi hj; subst hj
    exact fun k hk hf => h.2.1 e (List.mem_of_getElem? hi) k hf hk
  | _ :: L, i + 1, j + 1, e, f, h, hi, hj, hn => Mem.apart h.2.2 (by simpa using hi) (by simpa using hj) (by omega)
  | [], _, _, _, _, _, hi, _, _ => by simp at hi
theorem Mem.erase : ∀ {L : List Ent} (i : Nat), Mem w L → Mem w (L.eraseIdx i)
  | [], _, h => by simpa using h
  | _ :: _, 0, h => h.2.2
  | e :: L, i + 1, h => ⟨h.1, fun f hf => h.2.1 f (List.mem_of_mem_eraseIdx hf), Mem.erase i h.2.2⟩
/-- What a call may have changed (F, and what is new), and what there is, side by side. -/
structure HS (F : Nat → Prop) (w0 w : World) (L : List Ent) : Prop where
  upd : Upd F w0 w
  mem : Mem w L
  own : ∀ e ∈ L, ∀ k, e.F k → F k ∨ w0.heap.size ≤ k
variable {F : Nat → Prop} {w0 : World}
theorem HS.start (F : Nat → Prop) (w : World) : HS F w w [] := ⟨Upd.refl _ _, trivial, fun _ h => by simp at h⟩
theorem HS.get (h : HS F w0 w L) {i : Nat} (hi : L[i]? = some e) : e.p w := h.mem.get hi
theorem HS.blk (h : HS F w0 w L) (i : Nat) {g : Nat} {t : TypeId} {cs : List Value} (hi : L[i]? = some (.blk g t cs)) : Blk w g t cs := h.mem.get hi
theorem HS.ownI (h : HS F w0 w L) (i : Nat) {t : TypeId} {k : IntKind} {v : Value} {xs : List Int} (hi : L[i]? = some (.own t k v xs)) : Own w 0 t k v xs := h.mem.get hi
theorem HS.ownV (h : HS F w0 w L) (i : Nat) {t : TypeId} {v : Value} {cs : List Value} (hi : L[i]? = some (.ownV t v cs)) : OwnV w 0 t v cs := h.mem.get hi
theorem HS.ha (h : HS F w0 w L) (i : Nat) {α : Type} {H : HA α} {G : Nat → Prop} {v : Value} {x : α} (hi : L[i]? = some (.ha H G v x)) : H.at_ w G v x := h.mem.get hi
theorem HS.size (h : HS F w0 w L) : w0.heap.size ≤ w.heap.size := h.upd.size
theorem HS.below (h : HS F w0 w L) (hb : Below w.heap.size w w') : HS F w0 w' L :=
  ⟨h.upd.trans (Upd.of_below hb F) fun _ _ hk => hk, h.mem.keptAll fun e he k hk => hb.block k (h.mem.lt he k hk), h.own⟩
theorem HS.drew (h : HS F w0 w L) : HS F w0 w.drew L := h.below (below_drewN (Below.refl _ _) 1)
theorem HS.drewN (h : HS F w0 w L) (n : Nat) : HS F w0 (w.drewN n) L := h.below (below_drewN (Below.refl _ _) n)
/-- A new thing. -/
theorem HS.push (h : HS F w0 w L) (hb : Below w.heap.size w w') (e : Ent) (he : e.p w') (hn : ∀ k, e.F k → w.heap.size ≤ k) : HS F w0 w' (e :: L) :=
  ⟨(h.below hb).upd, ⟨he, fun f hf k hk hfk => by have := hn k hk; have := h.mem.lt hf k hfk; omega, (h.below hb).mem⟩, fun f hf k hk => by
    rcases List.mem_cons.1 hf with rfl | hf
    · exact .inr (Nat.le_trans h.size (hn k hk))
    · exact h.own f hf k hk⟩
theorem HS.pushBlk (h : HS F w0 w L) (hb : Below w.heap.size w w') {g : Nat} {t : TypeId} {cs : List Value} (he : Blk w' g t cs) (hg : w.heap.size = g) : HS F w0 w' (.blk g t cs :: L) :=
  h.push hb _ he fun k hk => by have : k = g := hk; omega
theorem HS.alloc (h : HS F w0 w L) (t : TypeId) (cs : List Value) {g : Nat} (hg : w.heap.size = g) : HS F w0 (w.alloc (.cells cs.toArray t)) (.blk g t cs :: L) :=
  h.pushBlk ((Below.refl _ _).alloc (Nat.le_refl _) _) (hg ▸ Blk.new _ _ _) hg
/-- A thing that was there at the begin, and may be changed. -/
theorem HS.take (h : HS F w0 w L) (e : Ent) (he : e.p w) (hF : ∀ k, e.F k → F k ∨ w0.heap.size ≤ k) (hd : ∀ f ∈ L, ∀ k, e.F k → ¬ f.F k) : HS F w0 w (e :: L) :=
  ⟨h.upd, ⟨he, hd, h.mem⟩, fun f hf => by
    rcases List.mem_cons.1 hf with rfl | hf
    · exact hF
    · exact h.own f hf⟩
theorem Mem.set1 : ∀ {L : List Ent} {i : Nat} {e e' : Ent} {w w' : World}, Mem w L → L[i]? = some e → (∀ k, k < w.heap.size → ¬ e.F k → w'.heap[k]? = w.heap[k]?) → e'.p w' → (∀ k, e'.F k → e.F k ∨ w.heap.size ≤ k) → Mem w' (L.set i e')
  | e :: L, 0, _, e', w, w', h, hi, hk, he', hF => by
    simp at hi; subst hi
    refine ⟨he', fun f hf k hk' hfk => ?_, Mem.keptAll h.2.2 fun f hf k hfk => hk k (h.2.2.lt hf k hfk) fun hek => h.2.1 f hf k hek hfk⟩
    rcases hF k hk' with h1 | h1
    · exact h.2.1 f hf k h1 hfk
    · have := h.2.2.lt hf k hfk; omega
  | e0 :: L, i + 1, e, e', w, w', h, hi, hk, he', hF => by
    have hi' : L[i]? = some e := by simpa using hi
    have hmem := List.mem_of_getElem? hi'
    refine ⟨e0.kept h.1 fun k hk0 => hk k (e0.lt h.1 k hk0) (h.2.1 e hmem k hk0), fun f hf k hk0 hfk => ?_, Mem.set1 h.2.2 hi' hk he' hF⟩
    rcases List.mem_or_eq_of_mem_set hf with hf | rfl
    · exact h.2.1 f hf k hk0 hfk
    · rcases hF k hfk with h1 | h1
      · exact h.2.1 e hmem k hk0 h1
      · have := e0.lt h.1 k hk0; omega
  | [], _, _, _, _, _, _, hi, _, _, _ => by simp at hi
/-- One thing has become another one; all others stand. -/
theorem HS.upd1 (h : HS F w0 w L) (i : Nat) (hi : L[i]? = some e) (hu : Upd e.F w w') (e' : Ent) (he' : e'.p w') (hF : ∀ k, e'.F k → e.F k ∨ w.heap.size ≤ k) : HS F w0 w' (L.set i e') := by
  have hmem := List.mem_of_getElem? hi
  refine ⟨⟨hu.os.trans h.upd.os, hu.tape.trans h.upd.tape, hu.output.trans h.upd.output, Nat.le_trans h.size hu.size, fun k hk hf => ?_⟩, h.mem.set1 hi hu.block he' hF, fun f hf k hfk => ?_⟩
  · refine (hu.block k (Nat.lt_of_lt_of_le hk h.size) fun hek => ?_).trans (h.upd.block k hk hf)
    rcases h.own e hmem k hek with h1 | h1
    · exact hf h1
    · omega
  · rcases List.mem_or_eq_of_mem_set hf with hf | rfl
    · exact h.own f hf k hfk
    · rcases hF k hfk with h1 | h1
      · exact h.own e hmem k h1
      · exact .inr (Nat.le_trans h.size h1)
theorem HS.erase (h : HS F w0 w L) (i : Nat) : HS F w0 w (L.eraseIdx i) := ⟨h.upd, h.mem.erase i, fun e he => h.own e (List.mem_of_mem_eraseIdx he)⟩
theorem HS.setCell (h : HS F w0 w L) (i : Nat) {g : Nat} {t : TypeId} {cs : List Value} (hi : L[i]? = some (.blk g t cs)) (j : Nat) (v : Value) : HS F w0 (w.setCell ⟨g, j, none⟩ v) (L.set i (.blk g t (cs.set j v))) :=
  h.upd1 i hi ((Upd.setCell w ⟨g, j, none⟩ v).mono fun _ _ hk => hk) _ ((h.blk i hi).set j v) fun k hk => .inl hk
theorem HS.setI (h : HS F w0 w L) (i : Nat) {g : Nat} {t : TypeId} {k : IntKind} {xs : List Int} (hi : L[i]? = some (.blk g t (ints k xs))) (j : Nat) (x : Int) : HS F w0 (w.setCell ⟨g, j, none⟩ (.int k x)) (L.set i (.blk g t (ints k (xs.set j x)))) := by
  have := h.setCell i hi j (.int k x)
  rwa [ints_set] at this
theorem HS.setRow (h : HS F w0 w L) (i : Nat) {g : Nat} {t : TypeId} {cs : List Value} (hi : L[i]? = some (.blk g t cs)) (cs' : List Value) : HS F w0 (w.setRow g cs'.toArray) (L.set i (.blk g t cs')) :=
  h.upd1 i hi ((Upd.setRow w g cs'.toArray).mono fun _ _ hk => hk) _ ((h.blk i hi).setRow cs') fun k hk => .inl hk
/-- What was there, and may not be changed, reads as it did. -/
theorem HS.old (h : HS F w0 w L) {k : Nat} (hk : k < w0.heap.size) (hF : ¬ F k) : w.heap[k]? = w0.heap[k]? := h.upd.block k hk hF
theorem HS.oldCell (h : HS F w0 w L) {g i : Nat} {v : Value} (hc : w0.cell? ⟨g, i, none⟩ = some v) (hF : ¬ F g) : w.cell? ⟨g, i, none⟩ = some v := by
  rw [← hc]; have := h.old (lt_of_cell hc) hF; simp only [World.cell?, this]
theorem HS.oldRd (h : HS F w0 w L) {A : Option Addr} {k : IntKind} {xs : List Int} (hr : Rd w0 A k xs) (hF : ∀ a, A = some a → xs ≠ [] → ¬ F a.block) : Rd w A k xs := hr.upd h.upd hF
theorem HS.oldBlk (h : HS F w0 w L) {g : Nat} {t : TypeId} {cs : List Value} (hb : Blk w0 g t cs) (hF : ¬ F g) : Blk w g t cs := (h.old hb.lt hF).trans hb
/-- Nothing but what is new was changed. -/
theorem HS.bel (h : HS NoF w0 w L) : Below w0.heap.size w0 w := h.upd.below (Nat.le_refl _) fun _ hk => hk.elim
theorem HS.frozen (h : HS F w0 w L) (i : Nat) {g : Nat} {t : TypeId} {cs : List Value} (hi : L[i]? = some (.blk g t cs)) (j : Nat) : w.frozen? ⟨g, j, none⟩ = false := (h.blk i hi).frozen j
theorem HS.cellI (h : HS F w0 w L) (i : Nat) {g : Nat} {t : TypeId} {k : IntKind} {xs : List Int} (hi : L[i]? = some (.blk g t (ints k xs))) (j : Nat) (hj : j < xs.length) : w.cell? ⟨g, j, none⟩ = some (.int k (rd xs j)) := (h.blk i hi).cellI j hj
theorem HS.cell (h : HS F w0 w L) (i : Nat) {g : Nat} {t : TypeId} {cs : List Value} (hi : L[i]? = some (.blk g t cs)) (j : Nat) : w.cell? ⟨g, j, none⟩ = cs[j]? := (h.blk i hi).cell j
end
end Go.Cour
/- A region that draws its order, walked once in the order of its text: what reads yields the same wherever a fact T holds of the world; what acts stands in a chain, and keeps T. -/
namespace Go.Cour
/-- Operations that read and no more. -/
def readK : Op → Bool
  | .move _ | .assign _ | .pick _ _ _ | .build _ _ | .load _ _ | .nilCheck _ | .binOp _ _ _ _ _ | .unOp _ _ _ | .makeInterface _ _ | .makeFunc _ _ _ | .fieldAddr _ _ _ | .field _ _ _ | .indexAddr _ _ _ | .index _ _ _ | .extract _ _ | .slice _ _ _ _ _ => true
  | .call c => match c.callee with
    | .builtin .len | .builtin .cap | .builtin .min | .builtin .max => true
    | _ => false
  | .convert _ d _ => d != 24
  | .typeAssert _ _ _ _ => true
  | _ => false
theorem andThen_value {α : Type} {r : Result α} {f : α → Value} {n : Next} {w' : World} (h : r.andThen (fun x w => .ok (Next.value (f x)) w) = .ok n w') : ∃ u, n = .value u := by
  cases r with
  | ok x w => simp only [Result.andThen_ok] at h; injection h with h _; exact ⟨_, h.symm⟩
  | halt x w => simp [Result.andThen] at h
theorem andThen_any {α : Type} {r : Result α} {f : α → World → Result Next} {n : Next} {w' : World} (hf : ∀ x w n w', f x w = .ok n w' → ∃ u, n = .value u) (h : r.andThen f = .ok n w') : ∃ u, n = .value u := by
  cases r with
  | ok x w => exact hf x w n w' h
  | halt x w => simp [Result.andThen] at h
theorem readK_value {P : Program} {o : Oper} {ρ : Operand → Value} {w w' : World} {n : Next} (hk : readK o.op = true) (h : (execOp ρ o).run P w = .ok n w') : ∃ u, n = .value u := by
  unfold execOp at h
  cases hop : o.op <;> simp only [hop, readK, Bool.false_eq_true] at hk h
  case move x => simp at h; exact ⟨_, h.1.symm⟩
  case assign x => simp at h; exact ⟨_, h.1.symm⟩
  case nilCheck x =>
    split at h
    · simp [runtimePanic] at h
    · simp [runtimePanic] at h
    · simp [runtimePanic] at h
    · split at h
      · simp [runtimePanic] at h
      · simp only [Sem.run_bind] at h
        refine andThen_any (fun x w n w' h => ?_) h
        refine andThen_any (fun x w n w' h => ?_) h
        split at h
        · simp [Go.unsupported] at h
        · simp at h; exact ⟨_, h.1.symm⟩
      · simp at h; exact ⟨_, h.1.symm⟩
    · simp at h; exact ⟨_, h.1.symm⟩
  case call c =>
    cases hc : c.callee with
    | value f => simp [hc] at hk
    | invoke r m => simp [hc] at hk
    | builtin b =>
      simp only [hc] at hk
      simp only [resolve, hc, invoke, Sem.run_bind, Sem.run_pure, Result.andThen_ok] at h
      cases b <;> simp at hk <;> simp only [builtin, Sem.run_bind, Sem.run_pure] at h <;> exact andThen_value h
  all_goals (simp only [Sem.run_bind, Sem.run_pure] at h; exact andThen_value h)
theorem put_put_iff (a : Act) {d e : Option Tmp} (x u v : Value) (h : ∀ t, d = some t → e ≠ some t) : (a.put d x).put e u = (a.put d x).put e v ↔ a.put e u = a.put e v := by
  cases e with
  | none => simp [Act.put]
  | some t =>
    cases d with
    | none => simp [Act.put]
    | some s =>
      have hne : s ≠ t := fun he => h s rfl (he ▸ rfl)
      constructor
      · intro h1
        by_cases ht : t < a.tmps.size
        · have h2 := congrArg (fun b : Act => b.tmps[t]?) h1
          have h3 : t < (a.put (some s) x).tmps.size := by rw [put_size]; exact ht
          simp only [put_same _ _ _ h3, Option.some.injEq] at h2
          rw [h2]
        · simp [Act.put, Array.setIfInBounds, ht]
      · intro h1
        rw [Act.put_comm a x u h, Act.put_comm a x v h, h1]
section
variable (P : Program) (ops : Array Oper) (N : Act → World → Prop)
/-- An operation that reads: what the act is behind it; the world is as it was. -/
def Rd1 (o : Oper) (a : Act) (w : World) (v : Value) : Prop :=
  if Region.wanted o (yielded ops a.tmps) then ∃ u, (execOp a.eval o).run P w = .ok (.value u) w ∧ a.put o.dst u = a.put o.dst v
  else a.put o.dst undef = a.put o.dst v
/-- An operation that acts: what holds of its value, and of the world behind it. -/
def V1 (o : Oper) (a : Act) (w : World) (K : Value → World → Prop) : Prop :=
  if Region.wanted o (yielded ops a.tmps) then
    match (execOp a.eval o).run P w with
    | .ok (.value v) w' => K v w'
    | .ok .skip w' => K undef w'
    | .ok (.enter f args) w' => Calls P f args w' fun e w'' => ∃ v, e = .returned v ∧ K v w''
    | .ok (.row row args) w' => Rows P row args w' K
    | _ => False
  else K undef w
theorem waitsT_more {ops : Array Oper} : ∀ (n k i : Nat), waitsT ops n k i = true → waitsT ops (n + 1) k i = true
  | 0, k, i, h => by
    unfold waitsT at h ⊢
    rw [h]; rfl
  | n + 1, k, i, h => by
    unfold waitsT at h ⊢
    rw [Bool.or_eq_true] at h ⊢
    refine h.imp (fun h => h) fun h => ?_
    cases ho : ops[k]? with
    | none => simp [ho] at h
    | some o =>
      simp only [ho] at h ⊢
      obtain ⟨e, he, hb⟩ := Array.any_eq_true'.1 h
      refine Array.any_eq_true'.2 ⟨e, he, ?_⟩
      simp only [Bool.and_eq_true] at hb ⊢
      exact ⟨hb.1, waitsT_more n e.on i hb.2⟩
theorem waitsT_le {ops : Array Oper} {k i : Nat} (n : Nat) : ∀ m, waitsT ops n k i = true → waitsT ops (n + m) k i = true
  | 0, h => h
  | m + 1, h => waitsT_more (n + m) k i (waitsT_le n m h)
/-- Whom operation n waits for, as a number's bits; l: those ahead, the last one first. -/
def maskOf (ops : Array Oper) (n : Nat) (l : List Nat) : Nat := match ops[n]? with
  | none => 0
  | some o => o.after.toList.foldl (fun m e => if Region.binds .any e then m ||| (2 ^ e.on) ||| (if e.on < n then l.getD (n - 1 - e.on) 0 else 0) else m) 0
def reachR (ops : Array Oper) : Nat → List Nat
  | 0 => []
  | n + 1 => maskOf ops n (reachR ops n) :: reachR ops n
theorem mask_bit {n p : Nat} {l : List Nat} : ∀ {es : List Edge} {m : Nat}, (es.foldl (fun m e => if Region.binds .any e then m ||| (2 ^ e.on) ||| (if e.on < n then l.getD (n - 1 - e.on) 0 else 0) else m) m).testBit p = true →
    m.testBit p = true ∨ ∃ e ∈ es, Region.binds .any e = true ∧ (e.on = p ∨ (e.on < n ∧ (l.getD (n - 1 - e.on) 0).testBit p = true))
  | [], m, h => .inl h
  | e :: es, m, h => by
    rw [List.foldl_cons] at h
    rcases mask_bit h with h1 | ⟨e', he', h1⟩
    · by_cases hb : Region.binds .any e = true
      · rw [if_pos hb, Nat.testBit_or, Nat.testBit_or, Bool.or_eq_true, Bool.or_eq_true] at h1
        rcases h1 with (h1 | h1) | h1
        · exact .inl h1
        · rw [Nat.testBit_two_pow] at h1
          exact .inr ⟨e, List.mem_cons_self .., hb, .inl (by simpa using h1)⟩
        · by_cases hlt : e.on < n
          · rw [if_pos hlt] at h1
            exact .inr ⟨e, List.mem_cons_self .., hb, .inr ⟨hlt, h1⟩⟩
          · rw [if_neg hlt] at h1; simp at h1
      · rw [if_neg hb] at h1; exact .inl h1
    · exact .inr ⟨e', List.mem_cons_of_mem _ he', h1⟩
theorem reach_spec (ops : Array Oper) : ∀ (n i : Nat), i < n → ∀ p, ((reachR ops n).getD (n - 1 - i) 0).testBit p = true → waitsT ops (i + 1) i p = true
  | 0, i, h, _, _ => absurd h (Nat.not_lt_zero _)
  | n + 1, i, h, p, hb => by
    by_cases hin : i = n
    · subst hin
      have h0 : i + 1 - 1 - i = 0 := by omega
      rw [h0] at hb
      have hb' : (maskOf ops i (reachR ops i)).testBit p = true := hb
      unfold maskOf at hb'
      cases ho : ops[i]? with
      | none => simp [ho] at hb'
      | some o =>
        simp only [ho] at hb'
        rcases mask_bit hb' with h1 | ⟨e, he, hbi, h1⟩
        · simp at h1
        · unfold waitsT
          rw [Bool.or_eq_true]
          refine .inr ?_
          simp only [ho]
          refine Array.any_eq_true'.2 ⟨e, by simpa using he, ?_⟩
          simp only [Bool.and_eq_true]
          refine ⟨hbi, ?_⟩
          rcases h1 with h1 | ⟨h1, h2⟩
          · rw [h1]
            cases i <;> unfold waitsT <;> simp
          · have h3 := reach_spec ops i e.on h1 p h2
            have h4 := waitsT_le (e.on + 1) (i - (e.on + 1)) h3
            rwa [show e.on + 1 + (i - (e.on + 1)) = i by omega] at h4
    · have h1 : n + 1 - 1 - i = (n - 1 - i) + 1 := by omega
      rw [h1] at hb
      exact reach_spec ops n i (by omega) p hb
/-- Operation i waits for operation p. -/
def dirW (ops : Array Oper) (i p : Nat) : Bool := decide (i < ops.size) && decide (i < 199) && ((reachR ops ops.size).getD (ops.size - 1 - i) 0).testBit p
theorem dirW_waits {ops : Array Oper} {i p : Nat} (h : dirW ops i p = true) : waitsT ops 200 i p = true := by
  unfold dirW at h
  simp only [Bool.and_eq_true, decide_eq_true_eq] at h
  have h1 := reach_spec ops ops.size i h.1.1 p h.2
  have h2 := waitsT_le (i + 1) (200 - (i + 1)) h1
  rwa [show i + 1 + (200 - (i + 1)) = 200 by omega] at h2
/-- An operation that acts, and stands in one order with all others. -/
def totB (ops : Array Oper) (i : Nat) : Bool := (List.range ops.size).all fun j => (decide (i ≤ j) || dirW ops i j) && (decide (j ≤ i) || dirW ops j i)
/-- The operations walked in the order of the text. -/
def wpT : (World → Prop) → List Nat → Act → World → Prop
  | _, [], a, w => N a w
  | T, i :: rest, a, w => match ops[i]? with
    | none => False
    | some o =>
      if readK o.op then ∃ v, (∀ w', T w' → Rd1 P ops o a w' v) ∧ wpT T rest (a.put o.dst v) w
      else V1 P ops o a w fun u w' => if totB ops i then ∃ T', T' w' ∧ wpT T' rest (a.put o.dst u) w' else T w' ∧ wpT T rest (a.put o.dst u) w'
end
section
variable {P : Program} {ops : Array Oper} {T : World → Prop} {N : Act → World → Prop}
theorem Rd1.put {o : Oper} {a : Act} {w : World} {v : Value} {d : Option Tmp} (x : Value) (h1 : ∀ t, d = some t → t ∉ o.looksAt ops) (h2 : ∀ t, d = some t → o.dst ≠ some t) (hs : ∀ cs b, o.op ≠ .select cs b) : Rd1 P ops o (a.put d x) w v ↔ Rd1 P ops o a w v := by
  unfold Rd1
  rw [wanted_put o a d x h1, execOp_put o hs a d x h1]
  simp only [put_put_iff a x _ _ h2]
theorem V1.put {o : Oper} {a : Act} {w : World} {K : Value → World → Prop} {d : Option Tmp} (x : Value) (h1 : ∀ t, d = some t → t ∉ o.looksAt ops) (hs : ∀ cs b, o.op ≠ .select cs b) : V1 P ops o (a.put d x) w K ↔ V1 P ops o a w K := by
  unfold V1
  rw [wanted_put o a d x h1, execOp_put o hs a d x h1]
theorem V1.mono {o : Oper} {a : Act} {w : World} {K K' : Value → World → Prop} (h : V1 P ops o a w K) (hk : ∀ u w', K u w' → K' u w') : V1 P ops o a w K' := by
  unfold V1 at *
  split at h <;> rename_i hw
  · rw [if_pos hw]
    revert h
    cases (execOp a.eval o).run P w with
    | halt x w' => exact fun h => h
    | ok n w' =>
      cases n <;> intro h <;> first | exact hk _ _ h | exact h | skip
      case enter f args => exact Calls.mono h fun e w'' ⟨v, he, hv⟩ => ⟨v, he, hk _ _ hv⟩
      case row row args => exact Rows.mono h fun u w'' hu => hk _ _ hu
  · rw [if_neg hw]; exact hk _ _ h
theorem V1.ex {o : Oper} {a : Act} {w : World} {K : Value → World → Prop} (h : V1 P ops o a w K) : ∃ u w', K u w' := by
  unfold V1 at h
  split at h
  · revert h
    cases (execOp a.eval o).run P w with
    | halt x w' => exact fun h => h.elim
    | ok n w' =>
      cases n <;> intro h <;> first | exact ⟨_, _, h⟩ | exact h.elim | skip
      case enter f args => obtain ⟨e, w'', fr, ⟨v, _, hv⟩, _⟩ := h []; exact ⟨v, w'', hv⟩
      case row row args => obtain ⟨v, w'', hv, _⟩ := h default []; exact ⟨v, w'', hv⟩
  · exact ⟨_, _, h⟩
theorem Rd1.det {o : Oper} {a : Act} {w : World} {u v : Value} (h : Rd1 P ops o a w u) (k : Rd1 P ops o a w v) : a.put o.dst u = a.put o.dst v := by
  unfold Rd1 at *
  split at h <;> rename_i hw
  · rw [if_pos hw] at k
    obtain ⟨x, h1, h2⟩ := h
    obtain ⟨y, h3, h4⟩ := k
    rw [h1] at h3
    injection h3 with h3
    injection h3 with h3
    subst h3
    exact h2.symm.trans h4
  · rw [if_neg hw] at k; exact h.symm.trans k
def noSel (o : Oper) : Prop := ∀ cs b, o.op ≠ .select cs b
/-- What may go ahead goes ahead. -/
theorem wpT_pull (i : Nat) (o : Oper) (post : List Nat) (hi : ops[i]? = some o) (hso : noSel o) : ∀ (pre : List Nat) (a : Act) (w : World), T w → (pre ≠ [] → totB ops i = false) → (∀ j ∈ pre, totB ops j = false ∧ ∃ p, ops[j]? = some p ∧ p.apart ops o = true ∧ (readK p.op || readK o.op) = true ∧ noSel p) → wpT P ops N T (pre ++ i :: post) a w →
    if readK o.op then ∃ v, (∀ w', T w' → Rd1 P ops o a w' v) ∧ wpT P ops N T (pre ++ post) (a.put o.dst v) w
    else V1 P ops o a w fun u w' => if totB ops i then ∃ T', T' w' ∧ wpT P ops N T' (pre ++ post) (a.put o.dst u) w' else T w' ∧ wpT P ops N T (pre ++ post) (a.put o.dst u) w'
  | [], a, w, _, _, _, h => by simpa only [List.nil_append, wpT, hi] using h
  | j :: pre, a, w, hT, hti, hp, h => by
    obtain ⟨htj, p, hj, hap, hrd, hsp⟩ := hp j (List.mem_cons_self ..)
    have hti' := hti (by simp)
    obtain ⟨s1, s2, s3⟩ := Oper.apart_spec hap
    have s4 : ∀ t, o.dst = some t → p.dst ≠ some t := fun t ht hpt => s2 t hpt ht
    have ih := fun a w hT => wpT_pull i o post hi hso pre a w hT (fun _ => hti') (fun q hq => hp q (List.mem_cons_of_mem _ hq))
    simp only [List.cons_append, wpT, hj, htj, hti', Bool.false_eq_true, if_false] at h ih ⊢
    by_cases hkp : readK p.op = true
    · rw [if_pos hkp] at h
      obtain ⟨vp, hvp, h⟩ := h
      have h2 := ih _ _ hT h
      by_cases hko : readK o.op = true
      · rw [if_pos hko] at h2 ⊢
        obtain ⟨v, hv, h3⟩ := h2
        refine ⟨v, fun w' hw' => (Rd1.put vp s1 s2 hso).1 (hv w' hw'), ?_⟩
        rw [if_pos hkp]
        refine ⟨vp, fun w' hw' => (Rd1.put v s3 s4 hsp).2 (hvp w' hw'), ?_⟩
        rw [← Act.put_comm a vp v s2]; exact h3
      · rw [if_neg hko] at h2 ⊢
        refine ((V1.put vp s1 hso).1 h2).mono fun u w' ⟨h3, h4⟩ => ⟨h3, ?_⟩
        rw [if_pos hkp]
        refine ⟨vp, fun w'' hw'' => (Rd1.put u s3 s4 hsp).2 (hvp w'' hw''), ?_⟩
        rw [← Act.put_comm a vp u s2]; exact h4
    · have hko : readK o.op = true := by
        rw [Bool.or_eq_true] at hrd
        exact hrd.resolve_left hkp
      rw [if_neg hkp] at h
      rw [if_pos hko]
      have h2 : V1 P ops p a w fun u w' => T w' ∧ ∃ v, (∀ w'', T w'' → Rd1 P ops o a w'' v) ∧ wpT P ops N T (pre ++ post) ((a.put p.dst u).put o.dst v) w' := h.mono fun u w' ⟨h3, h4⟩ => by
        have h5 := ih _ _ h3 h4
        rw [if_pos hko] at h5
        obtain ⟨v, hv, h6⟩ := h5
        exact ⟨h3, v, fun w'' hw'' => (Rd1.put u s1 s2 hso).1 (hv w'' hw''), h6⟩
      obtain ⟨u0, w0, hT0, v0, hv0, _⟩ := h2.ex
      refine ⟨v0, hv0, ?_⟩
      rw [if_neg hkp]
      refine (V1.put v0 s3 hsp).2 (h2.mono fun u w' ⟨h3, v, hv, h4⟩ => ⟨h3, ?_⟩)
      rw [Act.put_comm a u v s2, (hv w0 hT0).det (hv0 w0 hT0)] at h4
      exact h4
/-- What the law asks of the region's text. -/
def chkTOne (ops : Array Oper) (i : Nat) : Bool :=
  match ops[i]? with
  | none => true
  | some o => (o.after.all fun e => !Region.binds .any e || decide (e.on < i)) && !isSelect o.op &&
    (List.range i).all fun p => dirW ops i p || (match ops[p]? with | some q => q.apart ops o && (readK q.op || readK o.op) | none => true)
def chkT (ops : Array Oper) : Bool := (List.range ops.size).all (chkTOne ops)
structure ChkT (ops : Array Oper) : Prop where
  back : ∀ (i : Nat) (o : Oper), ops[i]? = some o → ∀ e ∈ o.after, Region.binds .any e = true → e.on < i
  sel : ∀ (i : Nat) (o : Oper), ops[i]? = some o → noSel o
  ahead : ∀ (i : Nat) (o : Oper), ops[i]? = some o → ∀ p q, p < i → ops[p]? = some q → waitsT ops 200 i p = true ∨ (q.apart ops o = true ∧ (readK q.op || readK o.op) = true)
theorem chkT_spec (h : chkT ops = true) : ChkT ops := by
  have h1 : ∀ i o, ops[i]? = some o → ((o.after.all fun e => !Region.binds .any e || decide (e.on < i)) = true ∧ isSelect o.op = false) ∧
    ((List.range i).all fun p => dirW ops i p || (match ops[p]? with | some q => q.apart ops o && (readK q.op || readK o.op) | none => true)) = true := fun i o ho => by
    have := List.all_eq_true.1 h i (List.mem_range.2 (Array.getElem?_eq_some_iff.1 ho).1)
    unfold chkTOne at this
    simp only [ho, Bool.and_eq_true, Bool.not_eq_true'] at this
    exact this
  refine ⟨fun i o ho e he hb => ?_, fun i o ho cs b hs => ?_, fun i o ho p q hp hq => ?_⟩
  · have := Array.all_eq_true'.1 (h1 i o ho).1.1 e he
    simpa [hb] using this
  · have := (h1 i o ho).1.2
    rw [hs] at this
    simp [isSelect] at this
  · have := List.all_eq_true.1 (h1 i o ho).2 p (List.mem_range.2 hp)
    simp only [hq, Bool.or_eq_true, Bool.and_eq_true] at this
    rcases this with h2 | ⟨h2, h3⟩
    · exact .inl (dirW_waits h2)
    · exact .inr ⟨h2, by simpa using h3⟩
/-- Whoever stands listed has all that it waits for listed. -/
def Closed (ops : Array Oper) (listed : Array Bool) : Prop := ∀ (j : Nat) (oj : Oper), ops[j]? = some oj → listed.getD j false = true → ∀ e ∈ oj.after, Region.binds .any e = true → listed.getD e.on false = true
theorem Closed.waits {listed : Array Bool} (hc : Closed ops listed) (hl : listed.size = ops.size) : ∀ (n k p : Nat), waitsT ops n k p = true → k < ops.size → listed.getD k false = true → listed.getD p false = true
  | 0, k, p, hw, _, hk => by
    have : k = p := by simpa [waitsT] using hw
    rw [← this]; exact hk
  | n + 1, k, p, hw, hlt, hk => by
    unfold waitsT at hw
    rw [Bool.or_eq_true] at hw
    rcases hw with hw | hw
    · have : k = p := by simpa using hw
      rw [← this]; exact hk
    · cases ho : ops[k]? with
      | none => simp [ho] at hw
      | some o =>
        simp only [ho] at hw
        obtain ⟨e, he, hb⟩ := Array.any_eq_true'.1 hw
        simp only [Bool.and_eq_true] at hb
        have h2 := hc k o ho hk e he hb.1
        have h3 : e.on < ops.size := by
          rcases Nat.lt_or_ge e.on ops.size with h | h
          · exact h
          · have : listed.getD e.on false = false := by simp [Array.getD, show ¬ e.on < listed.size by omega]
            rw [this] at h2; cases h2
        exact hc.waits hl n e.on p hb.2 h3 h2
def unl (listed : Array Bool) (j : Nat) : Bool := !(listed.getD j true)
def rem (ops : Array Oper) (listed : Array Bool) : List Nat := (List.range ops.size).filter (unl listed)
theorem filter_ne_mid {s t : List Nat} {i : Nat} (h : (s ++ i :: t).Pairwise (· < ·)) : (s ++ i :: t).filter (fun j => j != i) = s ++ t := by
  rw [List.filter_append, List.filter_cons]
  have h1 : ∀ j ∈ s, j < i := fun j hj => (List.pairwise_append.1 h).2.2 j hj i (List.mem_cons_self ..)
  have h2 : ∀ j ∈ t, i < j := (List.pairwise_cons.1 (List.pairwise_append.1 h).2.1).1
  simp only [bne_self_eq_false, Bool.false_eq_true, if_false]
  rw [List.filter_eq_self.2 (fun j hj => by simp; have := h1 j hj; omega), List.filter_eq_self.2 (fun j hj => by simp; have := h2 j hj; omega)]
theorem totB_spec {i : Nat} (h : totB ops i = true) : ∀ j, j < ops.size → (j < i → waitsT ops 200 i j = true) ∧ (i < j → waitsT ops 200 j i = true) := fun j hj => by
  have := List.all_eq_true.1 h j (List.mem_range.2 hj)
  simp only [Bool.and_eq_true, Bool.or_eq_true, decide_eq_true_eq] at this
  exact ⟨fun h1 => dirW_waits (this.1.resolve_left (by omega)), fun h1 => dirW_waits (this.2.resolve_left (by omega))⟩
theorem wpAny_T {Q : Exit → Act → World → Prop} (hN : ∀ a w, N a w → Q .normal a w) (hc : ChkT ops) : ∀ (fuel : Nat) (listed : Array Bool) (T : World → Prop) (a : Act) (w : World), T w → listed.size = ops.size → Closed ops listed → (rem ops listed).length ≤ fuel →
    wpT P ops N T (rem ops listed) a w → wpAny P .any ops Q fuel listed a w := by
  have fin : ∀ (listed : Array Bool) (T : World → Prop) (a : Act) (w : World), listed.size = ops.size → Region.ready .any ops listed = [] → wpT P ops N T (rem ops listed) a w → Q .normal a w := fun listed T a w hl hr h => by
    have hall : ∀ n j, j < n → j < ops.size → listed.getD j false = true := fun n => by
      induction n with
      | zero => intro j hj; omega
      | succ n ih =>
        intro j hj hlt
        by_cases hjn : j < n
        · exact ih j hjn hlt
        · have hjn' : j = n := by omega
          subst hjn'
          cases hlj : listed.getD j false with
          | true => rfl
          | false =>
            have hun := getD_in (by rw [hl]; exact hlt) hlj
            have ho : ops[j]? = some ops[j] := Array.getElem?_eq_getElem hlt
            have : j ∈ Region.ready .any ops listed := mem_ready.2 ⟨hun, ops[j], ho, fun e he hb => ih e.on (hc.back j _ ho e he hb) (by have := hc.back j _ ho e he hb; omega)⟩
            rw [hr] at this
            cases this
    have hre : rem ops listed = [] := List.filter_eq_nil_iff.2 fun j hj => by
      have := hall (j + 1) j (by omega) (List.mem_range.1 hj)
      unfold unl
      cases h2 : listed.getD j true with
      | true => simp
      | false => rw [getD_both h2] at this; cases this
    rw [hre] at h
    exact hN _ _ h
  intro fuel
  induction fuel with
  | zero =>
    intro listed T a w hT hl hcl hf h
    have hr : Region.ready .any ops listed = [] := by
      rcases hx : Region.ready .any ops listed with _ | ⟨i, l⟩
      · rfl
      · have hm : i ∈ Region.ready .any ops listed := by rw [hx]; exact List.mem_cons_self ..
        obtain ⟨hun, o, ho, _⟩ := mem_ready.1 hm
        have h1 : i ∈ rem ops listed := List.mem_filter.2 ⟨List.mem_range.2 (Array.getElem?_eq_some_iff.1 ho).1, by simp [unl, hun]⟩
        have h2 := List.length_eq_zero_iff.1 (Nat.le_zero.1 hf)
        rw [h2] at h1
        cases h1
    exact ⟨hr, fin listed T a w hl hr h⟩
  | succ fuel ih =>
    intro listed T a w hT hl hcl hf h
    refine ⟨fun hr => fin listed T a w hl hr h, fun i hir => ?_⟩
    obtain ⟨hun, o, ho, hall⟩ := mem_ready.1 hir
    have hlt := (Array.getElem?_eq_some_iff.1 ho).1
    have him : i ∈ rem ops listed := List.mem_filter.2 ⟨List.mem_range.2 hlt, by simp [unl, hun]⟩
    obtain ⟨s, t, hst⟩ := List.append_of_mem him
    have hpw : (s ++ i :: t).Pairwise (· < ·) := by
      rw [← hst]; exact List.Pairwise.filter _ List.pairwise_lt_range
    have hrem : rem ops (listed.setIfInBounds i true) = s ++ t := by
      rw [← filter_ne_mid hpw, ← hst]
      unfold rem
      rw [List.filter_filter]
      refine List.filter_congr fun j hj => ?_
      unfold unl
      by_cases hij : i = j
      · subst hij
        have h0 : i < listed.size := by rw [hl]; exact hlt
        simp [h0]
      · rw [getD_set_ne true hij]
        simp [Ne.symm hij]
    have hlate : ∀ k ∈ s, waitsT ops 200 i k = true → False := fun k hk hw => by
      have hki : k < i := (List.pairwise_append.1 hpw).2.2 k hk i (List.mem_cons_self ..)
      have hku : k ∈ rem ops listed := by rw [hst]; exact List.mem_append_left _ hk
      have hkun : listed.getD k true = false := by
        have := (List.mem_filter.1 hku).2
        simpa [unl] using this
      have : waitsT ops 200 i k = true := hw
      unfold waitsT at this
      rw [Bool.or_eq_true] at this
      rcases this with h3 | h3
      · have : i = k := by simpa using h3
        omega
      · simp only [ho] at h3
        obtain ⟨e, he, hb⟩ := Array.any_eq_true'.1 h3
        simp only [Bool.and_eq_true] at hb
        have h4 := hcl.waits hl 199 e.on k hb.2 (by have := hc.back i o ho e he hb.1; omega) (hall e he hb.1)
        rw [getD_both hkun] at h4
        cases h4
    have hpre : ∀ j ∈ s, totB ops j = false ∧ ∃ p, ops[j]? = some p ∧ p.apart ops o = true ∧ (readK p.op || readK o.op) = true ∧ noSel p := fun k hk => by
      have hki : k < i := (List.pairwise_append.1 hpw).2.2 k hk i (List.mem_cons_self ..)
      have hks : k < ops.size := by omega
      have hkp : ops[k]? = some ops[k] := Array.getElem?_eq_getElem hks
      refine ⟨?_, ops[k], hkp, ?_⟩
      · cases htk : totB ops k with
        | false => rfl
        | true => exact (hlate k hk ((totB_spec htk i hlt).2 hki)).elim
      · rcases hc.ahead i o ho k _ hki hkp with hw | ⟨h1, h2⟩
        · exact (hlate k hk hw).elim
        · exact ⟨h1, h2, hc.sel k _ hkp⟩
    have hti : s ≠ [] → totB ops i = false := fun hs => by
      cases hti : totB ops i with
      | false => rfl
      | true =>
        obtain ⟨k, hk⟩ := List.exists_mem_of_ne_nil s hs
        have hki : k < i := (List.pairwise_append.1 hpw).2.2 k hk i (List.mem_cons_self ..)
        exact (hlate k hk ((totB_spec hti k (by omega)).1 hki)).elim
    rw [hst] at h
    have hpull := wpT_pull i o t ho (hc.sel i o ho) s a w hT hti hpre h
    rw [← hrem] at hpull
    have hcl' : Closed ops (listed.setIfInBounds i true) := fun j oj hj hl' e he hb => by
      by_cases hij : i = j
      · subst hij
        have : oj = o := Option.some.inj (hj.symm.trans ho)
        subst this
        exact getD_set_true (hall e he hb)
      · rw [getD_set_ne false hij] at hl'
        exact getD_set_true (hcl j oj hj hl' e he hb)
    have hlen : (rem ops (listed.setIfInBounds i true)).length ≤ fuel := by
      rw [hrem]; rw [hst] at hf; simp at hf ⊢; omega
    have next : ∀ (T : World → Prop) u w', T w' → wpT P ops N T (rem ops (listed.setIfInBounds i true)) (a.put o.dst u) w' → wpAny P .any ops Q fuel (listed.setIfInBounds i true) (a.put o.dst u) w' := fun T u w' hT' h' =>
      ih _ _ _ _ hT' (by simp [hl]) hcl' hlen h'
    have nextA : ∀ u w', (if totB ops i then ∃ T', T' w' ∧ wpT P ops N T' (rem ops (listed.setIfInBounds i true)) (a.put o.dst u) w' else T w' ∧ wpT P ops N T (rem ops (listed.setIfInBounds i true)) (a.put o.dst u) w') → wpAny P .any ops Q fuel (listed.setIfInBounds i true) (a.put o.dst u) w' := fun u w' h' => by
      split at h'
      · obtain ⟨T', h1, h2⟩ := h'; exact next T' u w' h1 h2
      · exact next T u w' h'.1 h'.2
    unfold wpOp
    simp only [ho]
    by_cases hko : readK o.op = true
    · rw [if_pos hko] at hpull
      obtain ⟨v, hv, h2⟩ := hpull
      have h3 := hv w hT
      unfold Rd1 at h3
      split at h3 <;> rename_i hw
      · rw [if_pos hw]
        obtain ⟨u, h4, h5⟩ := h3
        refine .inl ?_
        unfold Oper.wp
        rw [h4]
        rw [← h5] at h2
        exact next T u w hT h2
      · rw [if_neg hw]
        rw [← h3] at h2
        exact next T _ w hT h2
    · rw [if_neg hko] at hpull
      unfold V1 at hpull
      split at hpull <;> rename_i hw
      · rw [if_pos hw]
        refine .inl ?_
        unfold Oper.wp
        revert hpull
        cases (execOp a.eval o).run P w with
        | halt x w' => exact fun h => h.elim
        | ok n w' =>
          cases n <;> intro h <;> first | exact h.elim | exact nextA _ _ h | skip
          case enter f args =>
            refine Calls.mono h fun e w'' he => ?_
            obtain ⟨v, rfl, h1⟩ := he
            exact nextA v w'' h1
          case row row args => exact Rows.mono h fun u w'' hu => nextA u w'' hu
      · rw [if_neg hw]
        exact nextA _ w hpull
/-- A region that draws its order, in the order of its text. -/
theorem wp_region_T {id : Nat} {a : Act} {w : World} {Q : Exit → Act → World → Prop} (T : World → Prop) (hm : P.follows .mixedOrders = true) (hc : chkT ops = true) (hT : T w.drew) (h : wpT P ops (fun a' w' => Q .normal a' w') T (List.range ops.size) a w.drew) : (Code.region id ops true).wp P Q a w := by
  refine wp_region_any hm (wpAny_T (N := fun a' w' => Q .normal a' w') (fun _ _ h => h) (chkT_spec hc) ops.size _ T a _ hT (by simp) ?_ ?_ ?_)
  · intro j oj _ hl; rw [getD_replicate_false] at hl; cases hl
  · exact Nat.le_trans (List.length_filter_le _ _) (by simp)
  · have h1 : rem ops (Array.replicate ops.size false) = List.range ops.size := List.filter_eq_self.2 fun j hj => by
      simp [unl, Array.getD, List.mem_range.1 hj]
    rw [h1]; exact h
/-- One that reads. -/
theorem wpT_read {i : Nat} {o : Oper} {rest : List Nat} {a A : Act} {w : World} (hi : ops[i]? = some o) (hT : T w) (hk : readK o.op = true) (h1 : ∀ w', T w' → wpList P ops (fun ex a' w'' => ex = .normal ∧ a' = A ∧ w'' = w') [o] a w') (h2 : wpT P ops N T rest A w) : wpT P ops N T (i :: rest) a w := by
  have hv : ∀ w', T w' → ∃ u, A = a.put o.dst u ∧ Rd1 P ops o a w' u := fun w' hw' => by
    have h := h1 w' hw'
    simp only [wpList] at h
    unfold Rd1
    split at h <;> rename_i hw
    · rcases h with h | ⟨_, _, _, hf, _⟩
      case inr => cases hf
      unfold Oper.wp at h
      cases hx : (execOp a.eval o).run P w' with
      | halt x w1 =>
        rw [hx] at h
        cases x <;> simp [Oper.upon] at h
      | ok n w1 =>
        obtain ⟨u, rfl⟩ := readK_value hk hx
        rw [hx] at h
        simp only [Oper.upon] at h
        obtain ⟨_, h3, h4⟩ := h
        subst h4
        exact ⟨u, h3.symm, by rw [if_pos hw]; exact ⟨u, rfl, rfl⟩⟩
    · exact ⟨undef, h.2.1.symm, by rw [if_neg hw]⟩
  obtain ⟨v, hA, _⟩ := hv w hT
  simp only [wpT, hi]
  rw [if_pos hk]
  refine ⟨v, fun w' hw' => ?_, hA ▸ h2⟩
  obtain ⟨u, hu, hr⟩ := hv w' hw'
  have he : a.put o.dst u = a.put o.dst v := hu.symm.trans hA
  unfold Rd1 at *
  split at hr <;> rename_i hw
  · rw [if_pos hw]; obtain ⟨x, h3, h4⟩ := hr; exact ⟨x, h3, h4.trans he⟩
  · rw [if_neg hw]; exact hr.trans he
theorem V1_of {o : Oper} {a : Act} {w : World} {K : Act → World → Prop} (h : wpList P ops (fun ex a' w' => ex = .normal ∧ a'.defers = a.defers ∧ K a' w') [o] a w) : V1 P ops o a w fun u w' => K (a.put o.dst u) w' := by
  simp only [wpList] at h
  unfold V1
  split at h <;> rename_i hw
  · rw [if_pos hw]
    rcases h with h | ⟨_, _, _, hf, _⟩
    case inr => cases hf
    unfold Oper.wp at h
    revert h
    cases (execOp a.eval o).run P w with
    | halt x w' => intro h; cases x <;> simp [Oper.upon] at h
    | ok n w' =>
      cases n <;> intro h <;> simp only [Oper.upon] at h ⊢ <;> first | exact h.elim | exact h.2.2 | skip
      case defer d =>
        have := h.2.1
        rw [put_defers] at this
        exact absurd (congrArg List.length this) (by simp)
      case enter f args =>
        refine Calls.mono h fun e w'' he => ?_
        cases e with
        | returned u => exact ⟨u, rfl, he.2.2⟩
        | panicked c => exact absurd he.1 (by intro h; cases h)
        | outgrown => obtain ⟨_, _, hf, _⟩ := he; cases hf
      case row row args => exact Rows.mono h fun u w'' hu => hu.2.2
  · rw [if_neg hw]; exact h.2.2
/-- One that acts. -/
theorem wpT_act {i : Nat} {o : Oper} {rest : List Nat} {a : Act} {w : World} (hi : ops[i]? = some o) (hk : readK o.op = false) (h : wpList P ops (fun ex a' w' => ex = .normal ∧ a'.defers = a.defers ∧ T w' ∧ wpT P ops N T rest a' w') [o] a w) : wpT P ops N T (i :: rest) a w := by
  simp only [wpT, hi]
  rw [if_neg (by rw [hk]; decide)]
  refine (V1_of h).mono fun u w' hu => ?_
  split
  · exact ⟨T, hu⟩
  · exact hu
/-- One that acts, in one order with all others: behind it another fact may hold. -/
theorem wpT_tot {i : Nat} {o : Oper} {rest : List Nat} {a : Act} {w : World} (T' : World → Prop) (hi : ops[i]? = some o) (hk : readK o.op = false) (ht : totB ops i = true) (h : wpList P ops (fun ex a' w' => ex = .normal ∧ a'.defers = a.defers ∧ T' w' ∧ wpT P ops N T' rest a' w') [o] a w) : wpT P ops N T (i :: rest) a w := by
  simp only [wpT, hi]
  rw [if_neg (by rw [hk]; decide)]
  refine (V1_of h).mono fun u w' hu => ?_
  rw [if_pos ht]; exact ⟨T', hu.1, hu.2⟩
theorem wpT_end {a : Act} {w : World} (h : N a w) : wpT P ops N T [] a w := h
theorem wpT_fin {Q : Exit → Act → World → Prop} {a : Act} {w : World} (h : Q .normal a w) : wpT P ops (fun a' w' => Q .normal a' w') T [] a w := h
end
end Go.Cour
/- Steps over memory that is a list of things side by side; drawn regions whose worlds stay letters. -/
namespace Go.Cour
open Go.RowKit
section
variable {P : Program} {ops : Array Oper} {N : Act → World → Prop} {T : World → Prop}
/-- A region that draws its order, from any world of which T holds. -/
theorem wp_region_L {id : Nat} {a : Act} {w : World} {Q : Exit → Act → World → Prop} (T : World → Prop) (hm : P.follows .mixedOrders = true) (hc : chkT ops = true) (hT : T w.drew) (h : ∀ w', T w' → wpT P ops (fun a' w' => Q .normal a' w') T (List.range ops.size) a w') : (Code.region id ops true).wp P Q a w :=
  wp_region_T T hm hc hT (h _ hT)
/-- Behind an operation that acts: T holds still. -/
def OnT (P : Program) (ops : Array Oper) (N : Act → World → Prop) (T : World → Prop) (rest : List Nat) (a : Act) (ex : Exit) (a' : Act) (w' : World) : Prop := ex = .normal ∧ a'.defers = a.defers ∧ T w' ∧ ∀ w'', T w'' → wpT P ops N T rest a' w''
/-- Behind one that stands in one order with all others: another fact may hold. -/
def OnX (P : Program) (ops : Array Oper) (N : Act → World → Prop) (rest : List Nat) (a : Act) (ex : Exit) (a' : Act) (w' : World) : Prop := ex = .normal ∧ a'.defers = a.defers ∧ ∃ T' : World → Prop, T' w' ∧ ∀ w'', T' w'' → wpT P ops N T' rest a' w''
theorem OnT.mk {rest : List Nat} {a a' : Act} {w' : World} (hd : a'.defers = a.defers) (h : T w') (h2 : ∀ w'', T w'' → wpT P ops N T rest a' w'') : OnT P ops N T rest a .normal a' w' := ⟨rfl, hd, h, h2⟩
theorem OnX.mk {rest : List Nat} {a a' : Act} {w' : World} (T' : World → Prop) (hd : a'.defers = a.defers) (h : T' w') (h2 : ∀ w'', T' w'' → wpT P ops N T' rest a' w'') : OnX P ops N rest a .normal a' w' := ⟨rfl, hd, T', h, h2⟩
theorem wpT_actL {i : Nat} {o : Oper} {rest : List Nat} {a : Act} {w : World} (hi : ops[i]? = some o) (hk : readK o.op = false) (h : wpList P ops (OnT P ops N T rest a) [o] a w) : wpT P ops N T (i :: rest) a w := by
  simp only [wpT, hi]
  rw [if_neg (by rw [hk]; decide)]
  refine (V1_of (K := fun a' w' => T w' ∧ ∀ w'', T w'' → wpT P ops N T rest a' w'') h).mono fun u w' hu => ?_
  split
  · exact ⟨T, hu.1, hu.2 _ hu.1⟩
  · exact ⟨hu.1, hu.2 _ hu.1⟩
theorem wpT_totL {i : Nat} {o : Oper} {rest : List Nat} {a : Act} {w : World} (hi : ops[i]? = some o) (hk : readK o.op = false) (ht : totB ops i = true) (h : wpList P ops (OnX P ops N rest a) [o] a w) : wpT P ops N T (i :: rest) a w := by
  simp only [wpT, hi]
  rw [if_neg (by rw [hk]; decide)]
  refine (V1_of (K := fun a' w' => ∃ T' : World → Prop, T' w' ∧ ∀ w'', T' w'' → wpT P ops N T' rest a' w'') h).mono fun u w' hu => ?_
  obtain ⟨T', h1, h2⟩ := hu
  rw [if_pos ht]; exact ⟨T', h1, h2 _ h1⟩
end
section
variable {P : Program} {ops : Array Oper} {rest : List Oper} {o : Oper} {a : Act} {w w0 : World} {Q : Exit → Act → World → Prop} {F : Nat → Prop} {L : List Ent}
theorem listed_one {w : World} {g : Nat} {t : TypeId} {cs : List Value} (h : Blk w g t cs) (j : Nat) (v : Value) : (w.setCells g j [v]) = w.setCell ⟨g, j, none⟩ v := by
  simp [World.setCells]
theorem there_blk {w : World} {g : Nat} {t : TypeId} {cs : List Value} (h : Blk w g t cs) {j n : Nat} (hn : j + n ≤ cs.length) : w.there g j n := fun i hi => by
  refine ⟨?_, ?_⟩
  · rw [h.cell, List.getElem?_eq_getElem (by omega)]; rfl
  · exact h.frozen _
theorem setCells_blk {g : Nat} {t : TypeId} : ∀ (vs : List Value) {w : World} {cs : List Value} (j : Nat), Blk w g t cs → j + vs.length ≤ cs.length → Blk (w.setCells g j vs) g t (cs.take j ++ vs ++ cs.drop (j + vs.length))
  | [], w, cs, j, h, _ => by simpa [World.setCells] using h
  | v :: vs, w, cs, j, h, hl => by
    have h1 := h.set j v
    have h2 := setCells_blk vs (j + 1) h1 (by simp at hl ⊢; omega)
    simp only [World.setCells]
    have e : (cs.set j v).take (j + 1) ++ vs ++ (cs.set j v).drop (j + 1 + vs.length) = cs.take j ++ (v :: vs) ++ cs.drop (j + (v :: vs).length) := by
      simp only [List.length_cons] at hl
      rw [List.drop_set_of_lt (by omega), List.take_succ_eq_append_getElem (by simp; omega), List.getElem_set_self, List.take_set_of_le (Nat.le_refl _)]
      simp [Nat.add_assoc, Nat.add_comm 1]
    rw [e] at h2
    exact h2
theorem setCells_upd {g : Nat} : ∀ (vs : List Value) (w : World) (j : Nat), Upd (fun k => k = g) w (w.setCells g j vs)
  | [], w, j => Upd.refl _ _
  | v :: vs, w, j => by
    simp only [World.setCells]
    exact ((Upd.setCell w ⟨g, j, none⟩ v).mono fun _ _ hk => hk).trans (setCells_upd vs _ (j + 1)) fun _ _ hk => hk
theorem HS.setCells (h : HS F w0 w L) (i : Nat) {g : Nat} {t : TypeId} {cs : List Value} (hi : L[i]? = some (.blk g t cs)) (j : Nat) (vs : List Value) (hl : j + vs.length ≤ cs.length) : HS F w0 (w.setCells g j vs) (L.set i (.blk g t (cs.take j ++ vs ++ cs.drop (j + vs.length)))) :=
  h.upd1 i hi (setCells_upd vs w j) _ (setCells_blk vs j (h.blk i hi) hl) fun k hk => .inl hk
/-- A cell stored. -/
theorem hs_store1 (hS : HS F w0 w L) (i : Nat) {g : Nat} {t : TypeId} {cs : List Value} (hi : L[i]? = some (.blk g t cs)) (hw : Region.wanted o (yielded ops a.tmps) = true) (ty : TypeId) (x y : Operand) (ho : o.op = .store ty x y)
    (j : Nat) (hx : a.eval x = .pointer (some ⟨g, j, none⟩)) (v : Value) (hv : a.eval y = v) (h1 : v.oneCell' = true) (hs : (P.info? ty).map (·.size) = some 1) (hj : j < cs.length) (d : Option Tmp) (hd : o.dst = d)
    (h : ∀ w', HS F w0 w' (L.set i (.blk g t (cs.set j v))) → wpList P ops Q rest (a.put d undef) w') : wpList P ops Q (o :: rest) a w := by
  subst hd
  refine wpList_step fun K hK => ?_
  rw [if_pos hw]
  have hc : v.cells = #[v] := by cases v <;> first | rfl | cases h1
  have hb := hS.blk i hi
  have hcell : w.cell? ⟨g, j, none⟩ = some cs[j] := by rw [hb.cell, List.getElem?_eq_getElem hj]
  have hfz := hb.frozen j
  have hrun : (storeVar ty ⟨g, j, none⟩ v).run P w = .ok () (w.setCell ⟨g, j, none⟩ v) := by
    cases hq : P.info? ty with
    | none => simp [hq] at hs
    | some z =>
      have hz : z.size = 1 := by simpa [hq] using hs
      have := run_storeVar_mid (P := P) w g j ty #[v] (there_blk hb (by simp; omega)) (by simp [hq, hz]) (by simpa using h1)
      have h2 : storeVar ty ⟨g, j, none⟩ v = storeVar ty ⟨g, j, none⟩ (.agg #[v]) := by
        have e1 : (Value.agg #[v]).cells = #[v] := rfl
        unfold storeVar
        rw [hc, e1]
      rw [h2, this, listed_one hb]
  unfold Oper.wp execOp
  simp only [ho, hx, hv, Instr.storeAt, Instr.sureAddr, Sem.run_bind, Sem.run_pure, Result.andThen_ok, hrun]
  exact hK _ _ (h _ (hS.setCell i hi j v))
/-- Cells stored, a whole array or struct. -/
theorem hs_storeN (hS : HS F w0 w L) (i : Nat) {g : Nat} {t : TypeId} {cs : List Value} (hi : L[i]? = some (.blk g t cs)) (hw : Region.wanted o (yielded ops a.tmps) = true) (ty : TypeId) (x y : Operand) (ho : o.op = .store ty x y)
    (j : Nat) (hx : a.eval x = .pointer (some ⟨g, j, none⟩)) (vs : List Value) (hv : a.eval y = .agg vs.toArray) (h1 : ∀ v ∈ vs, v.oneCell' = true) (n : Nat) (hs : (P.info? ty).map (·.size) = some n) (hn : vs.length = n) (hj : j + n ≤ cs.length) (d : Option Tmp) (hd : o.dst = d)
    (h : ∀ w', HS F w0 w' (L.set i (.blk g t (cs.take j ++ vs ++ cs.drop (j + n)))) → wpList P ops Q rest (a.put d undef) w') : wpList P ops Q (o :: rest) a w := by
  subst hd hn
  refine wpList_step fun K hK => ?_
  rw [if_pos hw]
  exact wp_store_mid ty x y ho g j vs.toArray hx hv (by simpa using there_blk (hS.blk i hi) hj) (by simpa using hs) (all_oneCell_toArray h1) (hK _ _ (h _ (hS.setCells i hi j vs hj)))
/-- Cells loaded: an array or a struct, whole. -/
theorem hs_loadN (hS : HS F w0 w L) (i : Nat) {g : Nat} {t : TypeId} {cs : List Value} (hi : L[i]? = some (.blk g t cs)) (hw : Region.wanted o (yielded ops a.tmps) = true) (ty : TypeId) (x : Operand) (ho : o.op = .load ty x)
    (j : Nat) (hx : a.eval x = .pointer (some ⟨g, j, none⟩)) (vs : List Value) (hc : ∀ m v, vs[m]? = some v → cs[j + m]? = some v) (n : Nat) (hs : (P.info? ty).map (·.size) = some n) (hn : vs.length = n) (b : TypeDesc) (hu : P.underlying ty = some b) (hb : b.isRow = true) (d : Option Tmp) (hd : o.dst = d)
    (h : wpList P ops Q rest (a.put d (.agg vs.toArray)) w) : wpList P ops Q (o :: rest) a w := by
  subst hd hn
  refine wpList_step fun K hK => ?_
  rw [if_pos hw]
  exact wp_load_mid ty x ho g j hx vs b (fun m v hv => by rw [(hS.blk i hi).cell]; exact hc m v hv) hu hb hs (hK _ _ h)
/-- A cell loaded. -/
theorem hs_load1 (hS : HS F w0 w L) (i : Nat) {g : Nat} {t : TypeId} {cs : List Value} (hi : L[i]? = some (.blk g t cs)) (hw : Region.wanted o (yielded ops a.tmps) = true) (ty : TypeId) (x : Operand) (ho : o.op = .load ty x)
    (j : Nat) (hx : a.eval x = .pointer (some ⟨g, j, none⟩)) (v : Value) (hc : cs[j]? = some v) (b : TypeDesc) (hu : P.underlying ty = some b) (hb : b.isRow = false) (d : Option Tmp) (hd : o.dst = d)
    (h : wpList P ops Q rest (a.put d v) w) : wpList P ops Q (o :: rest) a w := by
  subst hd
  refine wpList_step fun K hK => ?_
  rw [if_pos hw]
  have hcell : w.cell? ⟨g, j, none⟩ = some v := by rw [(hS.blk i hi).cell]; exact hc
  have hagg : (isAgg ty).run P w = .ok false w := by
    unfold isAgg
    rw [Sem.run_bind, run_underlying hu w]
    cases b <;> simp_all
  have hrun : (loadVar ty ⟨g, j, none⟩).run P w = .ok v w := by
    simp [loadVar, Sem.run_bind, hagg, hcell]
  unfold Oper.wp execOp
  simp only [ho, hx, Instr.loadAt, Instr.sureAddr, Sem.run_bind, Sem.run_pure, Result.andThen_ok, hrun]
  exact hK _ _ h
/-- A whole block stored anew. -/
theorem hs_storeW (hS : HS F w0 w L) (i : Nat) {g : Nat} {t : TypeId} {cs : List Value} (hi : L[i]? = some (.blk g t cs)) (hw : Region.wanted o (yielded ops a.tmps) = true) (ty : TypeId) (x y : Operand) (ho : o.op = .store ty x y)
    (hx : a.eval x = .pointer (some ⟨g, 0, none⟩)) (vs : List Value) (hv : a.eval y = .agg vs.toArray) (h1 : ∀ v ∈ vs, v.oneCell' = true) (n : Nat) (hs : (P.info? ty).map (·.size) = some n) (hn : vs.length = n) (hc : cs.length = n) (d : Option Tmp) (hd : o.dst = d)
    (h : ∀ w', HS F w0 w' (L.set i (.blk g t vs)) → wpList P ops Q rest (a.put d undef) w') : wpList P ops Q (o :: rest) a w := by
  refine hs_storeN hS i hi hw ty x y ho 0 hx vs hv h1 n hs hn (by omega) d hd fun w' hS' => h w' ?_
  rw [List.take_zero, List.nil_append, Nat.zero_add, List.drop_eq_nil_of_le (by omega), List.append_nil] at hS'
  exact hS'
/-- A whole block loaded. -/
theorem hs_loadW (hS : HS F w0 w L) (i : Nat) {g : Nat} {t : TypeId} {vs : List Value} (hi : L[i]? = some (.blk g t vs)) (hw : Region.wanted o (yielded ops a.tmps) = true) (ty : TypeId) (x : Operand) (ho : o.op = .load ty x)
    (hx : a.eval x = .pointer (some ⟨g, 0, none⟩)) (n : Nat) (hs : (P.info? ty).map (·.size) = some n) (hn : vs.length = n) (b : TypeDesc) (hu : P.underlying ty = some b) (hb : b.isRow = true) (d : Option Tmp) (hd : o.dst = d)
    (h : wpList P ops Q rest (a.put d (.agg vs.toArray)) w) : wpList P ops Q (o :: rest) a w :=
  hs_loadN hS i hi hw ty x ho 0 hx vs (fun m v hv => by rw [Nat.zero_add]; exact hv) n hs hn b hu hb d hd h
end
theorem bodyPost_void {P : Program} {fn : Func} {R : Ending → World → Prop} {a : Act} {w : World} (hr : fn.results = #[]) (hd : a.defers = []) (hR : R (.returned (.tuple #[])) w) : bodyPost P fn R .normal a w :=
  bodyPost_end (results_none hr _ _ _) hd hR
end Go.Cour
