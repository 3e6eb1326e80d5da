/- The reference's seal and its opening. -/
import Derived.Test.YtpmmmbilfblcpaaDoorMatR
import Derived.Test.YtpmmmbilfblcpaaDoorRefX
import Derived.Test.YtpmmmbilfblcpaaDoorBytes
namespace Go.Proofs.YtpmmmbilfblcpaaDoor
open Go.RowKit Go.Cour
theorem gap_ltR (n : Nat) : gap n < 16 := Nat.mod_lt _ (by decide)
theorem padTo_lenR (xs b : List Int) : (padTo xs b).length = xs.length + b.length + gap b.length := by simp [padTo]; omega
theorem padTo_modR (xs b : List Int) (hx : xs.length % 16 = 0) : (padTo xs b).length % 16 = 0 := by
  rw [padTo_lenR]; unfold gap; omega
theorem snoc_zeroR (xs : List Int) (j : Nat) : xs ++ List.replicate j 0 ++ [0] = xs ++ List.replicate (j + 1) (0 : Int) := by
  rw [List.append_assoc, List.replicate_succ']
def onceTo (S : List Int) (i : Nat) : List Int := S.take i ++ List.replicate (32 - i) 0
theorem onceTo_length (S : List Int) (i : Nat) (h : i ≤ 32) (hs : 32 ≤ S.length) : (onceTo S i).length = 32 := by simp [onceTo]; omega
theorem onceTo_set (S : List Int) (i : Nat) (h : i < 32) (hs : 32 ≤ S.length) : (onceTo S i).set i (rd S i) = onceTo S (i + 1) := by
  have hl : (S.take i).length = i := by rw [List.length_take]; omega
  unfold onceTo
  rw [List.set_append_right _ _ (by omega), hl, Nat.sub_self, show 32 - i = (32 - (i + 1)) + 1 by omega, List.replicate_succ, List.set_cons_zero, List.take_add_one, List.append_assoc]
  congr 1
  have hlx : i < S.length := by omega
  rw [List.getElem?_eq_getElem hlx]
  simp [rd, hlx]
theorem onceTo_all (S : List Int) : onceTo S 32 = S.take 32 := by simp [onceTo]
theorem bytesOk_app {xs ys : List Int} (hx : bytesOk xs) (hy : bytesOk ys) : bytesOk (xs ++ ys) := fun i => by
  rw [rd_app]
  split
  · exact hx _
  · exact hy _
theorem bytesOk_nil : bytesOk [] := fun i => by
  have : rd [] i = 0 := by unfold rd; rfl
  omega
theorem bytesOk_lenTo (n k : Nat) : bytesOk (lenTo n k) := fun i => by
  unfold lenTo rd
  rw [List.getD_eq_getElem?_getD, List.getElem?_map]
  cases (List.range k)[i]? with
  | none => simp
  | some j => simp only [Option.map_some, Option.getD_some]; exact ⟨Int.emod_nonneg _ (by decide), Int.emod_lt_of_pos _ (by decide)⟩
theorem bytesOk_padTo {xs ys : List Int} (hx : bytesOk xs) (hy : bytesOk ys) : bytesOk (padTo xs ys) := bytesOk_app (bytesOk_app hx hy) (bytesOk_zeros' _)
theorem bytesOk_tagText {ad b : List Int} (ha : bytesOk ad) (hb : bytesOk b) : bytesOk (tagText ad b) := bytesOk_app (bytesOk_app (bytesOk_padTo (bytesOk_padTo bytesOk_nil ha) hb) (bytesOk_lenTo _ _)) (bytesOk_lenTo _ _)
/-- What the blocks of a call hold. -/
structure TG (w wr : World) (g4 g5 g8 : Nat) (key nonce : List Int) : Prop where
  k : Blk wr g4 23 (ints .u8 key)
  n : Blk wr g5 24 (ints .u8 nonce)
  t : Blk wr g8 46 (ints .u8 (List.replicate 16 0))
  bel : Below w.heap.size w wr
theorem TG.below {w wr wx : World} {g4 g5 g8 : Nat} {key nonce : List Int} (h : TG w wr g4 g5 g8 key nonce) (hb : Below wr.heap.size wr wx) : TG w wx g4 g5 g8 key nonce :=
  ⟨h.k.belowAll hb, h.n.belowAll hb, h.t.belowAll hb, below_then h.bel h.bel.size hb⟩
theorem TG.other {w wr : World} {g4 g5 g8 g : Nat} {key nonce : List Int} (h : TG w wr g4 g5 g8 key nonce) (h4 : g4 < g) (h5 : g5 < g) (h8 : g8 < g) (hw : w.heap.size ≤ g) (cs : Array Value) : TG w (wr.setRow g cs) g4 g5 g8 key nonce :=
  ⟨h.k.setRowOther (by omega) _, h.n.setRowOther (by omega) _, h.t.setRowOther (by omega) _, below_setRow h.bel hw _⟩
theorem TG.otherC {w wr : World} {g4 g5 g8 g : Nat} {key nonce : List Int} (h : TG w wr g4 g5 g8 key nonce) (h4 : g4 < g) (h5 : g5 < g) (h8 : g8 < g) (hw : w.heap.size ≤ g) (i : Nat) (v : Value) : TG w (wr.setCell ⟨g, i, none⟩ v) g4 g5 g8 key nonce :=
  ⟨h.k.setOther (by simp; omega) _, h.n.setOther (by simp; omega) _, h.t.setOther (by simp; omega) _, h.bel.setCell (by simp; omega) _⟩
theorem TG.grown {w wr wx : World} {g4 g5 g8 B : Nat} {key nonce ts : List Int} {v : Value} (h : TG w wr g4 g5 g8 key nonce) (ho : Own wr B 5 .u8 v ts) (hg : wr.grownBy wx v.ownBlock) (h4 : g4 < B) (h5 : g5 < B) (h8 : g8 < B) (hw : w.heap.size ≤ B) : TG w wx g4 g5 g8 key nonce :=
  ⟨h.k.grown hg (fun he => ho.ne_lt h4 he.symm), h.n.grown hg (fun he => ho.ne_lt h5 he.symm), h.t.grown hg (fun he => ho.ne_lt h8 he.symm), ho.grown_below h.bel hg h.bel.size hw⟩
set_option maxHeartbeats 8000000 in
set_option maxRecDepth 100000 in
theorem tagged1_calls (key nonce ad b : List Int) (A A' : Option Addr) (c c' n n' : Nat) (w : World) (hk : key.length = 32) (hnl : nonce.length = 12) (rk : bytesOk key) (rn : bytesOk nonce)
    (hn : n = ad.length) (hr : Rd w A .u8 ad) (ra : bytesOk ad) (hn' : n' = b.length) (hA' : A' = none → c' = 0) (hr' : Rd w A' .u8 b) (rb : bytesOk b) (hla : ad.length ≤ 100000) (hlb : b.length ≤ 100000) :
    Calls Tryd.prog 38 #[.agg (ints .u8 key).toArray, .agg (ints .u8 nonce).toArray, .slice A n c, .slice A' n' c'] w fun e w' => e = .returned (.agg (ints .u8 (tagOf key nonce ad b)).toArray) ∧ Below w.heap.size w w' := by
  have HK := hid hk
  have HNL := hid hnl
  have HN := hid hn
  have HN' := hid hn'
  have HR := hid hr
  have HR' := hid hr'
  have hnb : n ≤ 100000 := by omega
  have hnb' : n' ≤ 100000 := by omega
  obtain ⟨S, hS⟩ : ∃ S, Hd (block key 0 nonce = S) := ⟨_, ⟨rfl⟩⟩
  have hSl : Hd (S.length = 64) := hid (by rw [← hS.out]; exact block_length _ _ _)
  have rS : bytesOk S := by rw [← hS.out]; exact block_ok _ _ _
  have hTG : Hd (tagT (S.take 32) (tagText ad b) = tagOf key nonce ad b) := hid (by
    rw [tagOf, hS.out]
    exact tagT_eq _ _ (by rw [List.length_take, hSl.out]; rfl) (bytesOk_take rS 32) (bytesOk_tagText ra rb))
  have rM : bytesOk (tagText ad b) := bytesOk_tagText ra rb
  clear hk hnl hn hn' hr hr'
  go_enter Tryd.func38, Tryd.ntmps38
  go_wp2_with (first
    | (refine box_blk rfl 23 _ rfl _ rfl (ints .u8 key) rfl ?_; intro g4 w1 hg4 hb4 hB1 hs1)
    | (refine box_blk rfl 24 _ rfl _ rfl (ints .u8 nonce) rfl ?_; intro g5 w2 hg5 hb5 hB2 hs2)
    | (refine alloc_blk rfl 46 rfl _ rfl (ints .u8 (List.replicate 16 0)) zeroT16 ?_; intro g8 w3 hg8 hb8 hB3 hs3
       have hz : Hd (w.heap.size ≤ g4 ∧ g4 < g5 ∧ g5 < g8) := hid (by omega)
       have hT : TG w w3 g4 g5 g8 key nonce := ⟨(hb4.belowAll hB2).belowAll hB3, hb5.belowAll hB3, hb8, below_then (below_then hB1 hB1.size hB2) (by omega) hB3⟩
       clear hg4 hb4 hB1 hs1 hg5 hb5 hB2 hs2 hg8 hb8 hB3 hs3)
    | (refine load_blk rfl 23 _ rfl g4 rfl 23 _ hT.k 32 5 arr23 (by simpa using HK.out) info23 ?_)
    | (refine load_blk rfl 24 _ rfl g5 rfl 24 _ hT.n 12 5 arr24 (by simpa using HNL.out) info24 ?_)
    | (go_at_call 53; refine (block1_calls key nonce 0 _ HK.out HNL.out rk rn (by omega)).mono ?_; rintro e w4 ⟨he4, hB4⟩; rw [hS.out] at he4; subst he4
       replace hT := hT.below hB4)
    | (refine alloc_blk rfl 44 rfl _ rfl (ints .u8 (List.replicate 64 0)) (by kernel_rfl) ?_; intro g9 w5 hg9 hb9 hB5 hs5)
    | (refine store_blk rfl 44 _ _ rfl g9 (ints .u8 S) rfl rfl 44 _ hb9 64 info44 (by simpa using hSl.out) (by simp) (ints_one _ _) ?_
       have hz9 : Hd (g8 < g9) := hid (by have := hT.t.lt; omega)
       replace hT := (hT.below hB5).other (g := g9) (by have := hz.out; have := hz9.out; omega) (by have := hz.out; have := hz9.out; omega) (by have := hz9.out; omega) (by have := hz.out; have := hz9.out; omega) (ints .u8 S).toArray
       replace hb9 := hb9.setRow (ints .u8 S)
       clear hB5 hg9 hs5
       generalize w5.setRow g9 (ints .u8 S).toArray = w6 at *)
    | (refine alloc_blk rfl 23 rfl _ rfl (ints .u8 (onceTo S 0)) (by kernel_rfl) ?_; intro g10 w7 hg10 hb10 hB7 hs7)
    | fail)
  have hz10 : Hd (g9 < g10) := hid (by have := hb9.lt; omega)
  replace hb9 := hb9.belowAll hB7
  replace hT := hT.below hB7
  clear hB7 hg10 hs7
  go_loopg [11] 33 (fun kq v11 wr => ∃ i : Nat, i ≤ 32 ∧ v11 = .int .i64 i ∧ Hd (kq + i = 33) ∧ TG w wr g4 g5 g8 key nonce ∧ Blk wr g9 44 (ints .u8 S) ∧ Blk wr g10 23 (ints .u8 (onceTo S i)))
  case atStart => exact ⟨0, by omega, rfl, hid (by omega), hT, hb9, hb10⟩
  case round =>
    clear hT hb9 hb10
    obtain ⟨i, hi, rfl, hq, hT, hb9, hb10⟩ := hrel
    have hlt10 : Hd (g10 < wr.heap.size) := hid hb10.lt
    obtain ⟨O, hO⟩ : ∃ O, Hd (onceTo S i = O) := ⟨_, ⟨rfl⟩⟩
    have hOl : Hd (O.length = 32) := hid (by rw [← hO.out]; exact onceTo_length S i hi (by rw [hSl.out]; omega))
    rw [hO.out] at hb10
    by_cases hlt : i < 32
    · have a1 : (i : Int) < 32 := by omega
      have a2 : (i : Int) < 64 := by omega
      have cs := hb9.cellI i (by rw [hSl.out]; omega)
      have co := hb10.cellI i (by rw [hOl.out]; omega)
      have fo := hb10.frozen i
      have hOn : Hd (O.set i (rd S i) = onceTo S (i + 1)) := hid (by rw [← hO.out, onceTo_set S i hlt (by rw [hSl.out]; omega)])
      go_wp2_with fail
      go_roundg (gk - 1)
      case measure => have := hq.out; omega
      case rel =>
        have hx := hz.out
        have hx2 := hz9.out
        have hx3 := hz10.out
        refine ⟨i + 1, by omega, by go_num, hid (by have := hq.out; omega), hT.otherC (by omega) (by omega) (by omega) (by omega) i _, hb9.setOther (by simp; omega) _, ?_⟩
        rw [← hOn.out]
        exact hb10.setI i _
    · obtain rfl : i = 32 := by omega
      have hO32 : Hd (S.take 32 = O) := hid (by rw [← hO.out, onceTo_all])
      rw [hO32.out] at hTG
      clear hlt hi hb9 hq
      go_wp2_with (first
        | (go_at_call 15; refine (bytes_calls ad A c n wr HN.out (HR.out.below hT.bel) (by omega)).mono ?_
           rintro e w9 ⟨v12, rfl, ho, hB9⟩)
        | fail)
      replace hT := hT.below hB9
      replace hb10 := hb10.belowAll hB9
      obtain ⟨B, hBe⟩ : ∃ B, Hd (wr.heap.size = B) := ⟨_, ⟨rfl⟩⟩
      rw [hBe.out] at ho
      have hBs : B ≤ w9.heap.size := by rw [← hBe.out]; exact hB9.size
      have hBx : Hd (g4 < B ∧ g5 < B ∧ g8 < B ∧ w.heap.size ≤ B ∧ g10 < B) := hid (by
        have h1 := hz.out
        have h2 := hz9.out
        have h3 := hz10.out
        have h4 := hlt10.out
        rw [hBe.out] at h4
        omega)
      clear hB9 hBe
      obtain ⟨G, hGe⟩ : ∃ G, Hd (gap n = G) := ⟨_, ⟨rfl⟩⟩
      have hGl : G < 16 := by rw [← hGe.out]; exact gap_ltR n
      have hGG : Hd (∀ j, j ≤ G → ((ad.length + j) % 16 = 0 ↔ j = G)) := hid (fun j hj => by
        have h1 := hGe.out
        have h2 := HN.out
        unfold gap at h1
        omega)
      have hLG : Hd (ad.length ≤ 100000) := hid (by rw [← HN.out]; omega)
      go_loopg [12] (G + 1) (fun kq v12 wr => ∃ j : Nat, j ≤ G ∧ Hd (kq + j = G + 1) ∧ Own wr B 5 .u8 v12 (ad ++ List.replicate j 0) ∧ TG w wr g4 g5 g8 key nonce ∧ Blk wr g10 23 (ints .u8 O) ∧ B ≤ wr.heap.size)
      case atStart => exact ⟨0, by omega, hid (by omega), by simpa using ho, hT, hb10, hBs⟩
      case round =>
        clear ho hT hb10 hBs
        obtain ⟨j, hj, hq, ho, hT, hb10, hBs⟩ := hrel
        obtain ⟨ts, hts⟩ : ∃ ts, Hd (ad ++ List.replicate j 0 = ts) := ⟨_, ⟨rfl⟩⟩
        have hlen : Hd (ts.length ≤ 100016) := hid (by rw [← hts.out, List.length_append, List.length_replicate]; have := hLG.out; omega)
        rw [hts.out] at ho
        obtain ⟨A1, c1, hv, hc1, hA1, hr1⟩ := id ho.parts
        obtain ⟨L, hL⟩ : ∃ L, Hd (ts.length = L) := ⟨_, ⟨rfl⟩⟩
        rw [hL.out] at hv hc1
        have hmod : L % 16 = 0 ↔ j = G := by
          have e : L = (ad).length + j := by rw [← hL.out, ← hts.out, List.length_append, List.length_replicate]
          rw [e]; exact hGG.out j hj
        subst hv
        obtain ⟨r, hr⟩ : ∃ r : Nat, Hd (L % 16 = r) := ⟨_, ⟨rfl⟩⟩
        have h1 : (L : Int).tmod 16 = (r : Int) := by rw [Int.tmod_eq_emod_of_nonneg (by omega), ← hr.out]; omega
        have h1' : (L : Int) % 16 = (r : Int) := by rw [← hr.out]; omega
        have HR1 := hid hr1
        clear hr1
        by_cases hlt : j < G
        · have hr0 : ((r : Int) != 0) = true := by have := hr.out; have := hmod; rw [bne_iff_ne]; omega
          have hr0' : ((r : Int) == 0) = false := by have := hr.out; have := hmod; rw [beq_eq_false_iff_ne]; omega
          have hts1 : Hd (ts ++ [0] = ad ++ List.replicate (j + 1) 0) := hid (by rw [← hts.out, snoc_zeroR])
          have HJ := hid hlt
          clear hmod hlt
          go_wp2_with (first
            | (at_builtin; refine append_one rfl (.tmp 33) (.tmp 34) 25 rfl B 5 .u8 1 undBytes infoU8 _ ts rfl ho 0 rfl (by have := hlen.out; omega) (by have := hlen.out; omega) hBs ?_; intro v' w2 ho' hg'; rw [hts1.out] at ho')
            | fail)
          go_roundg (gk - 1)
          case measure => have := hq.out; omega
          case rel => have hx := hBx.out; exact ⟨j + 1, by have := HJ.out; omega, hid (by have := hq.out; omega), ho', hT.grown ho hg' hx.1 hx.2.1 hx.2.2.1 hx.2.2.2.1, hb10.grown hg' (fun he => ho.ne_lt hx.2.2.2.2 he.symm), Nat.le_trans hBs hg'.size⟩
        · have hjg : j = G := by omega
          have hr0 : ((r : Int) != 0) = false := by have := hr.out; have := hmod; rw [bne_eq_false_iff_eq]; omega
          have hr0' : ((r : Int) == 0) = true := by have := hr.out; have := hmod; rw [beq_iff_eq]; omega
          clear hmod hlt
          subst hjg
          have hM1 : Hd (padTo [] ad = ts) := hid (by rw [← hts.out, padTo, List.nil_append, ← HN.out, hGe.out])
          obtain ⟨M2, hM2⟩ : ∃ M2, Hd (ts ++ b = M2) := ⟨_, ⟨rfl⟩⟩
          go_wp2_with (first
            | (at_builtin; refine append_list rfl (.tmp 36) (.tmp 37) 25 rfl B 5 .u8 1 undBytes infoU8 _ ts rfl ho A' n' c' b rfl HN'.out hA' (HR'.out.below hT.bel) (by rw [← HN'.out]; have := hlen.out; omega) (by rw [← HN'.out]; have := hlen.out; omega) hBs ?_; intro v2 w2 ho2 hg2; rw [hM2.out] at ho2)
            | fail)
          have hx := hBx.out
          replace hT := hT.grown ho hg2 hx.1 hx.2.1 hx.2.2.1 hx.2.2.2.1
          replace hb10 := hb10.grown hg2 (fun he => ho.ne_lt hx.2.2.2.2 he.symm)
          replace hBs := Nat.le_trans hBs hg2.size
          obtain ⟨H, hHe⟩ : ∃ H, Hd (gap n' = H) := ⟨_, ⟨rfl⟩⟩
          have hHl : H < 16 := by rw [← hHe.out]; exact gap_ltR n'
          have hM2l : Hd (M2.length = ts.length + n') := hid (by rw [← hM2.out, List.length_append, ← HN'.out])
          have htm : Hd (ts.length % 16 = 0) := hid (by rw [← hM1.out]; exact padTo_modR [] ad rfl)
          have hGH : Hd (∀ j, j ≤ H → ((M2.length + j) % 16 = 0 ↔ j = H)) := hid (fun j hj => by
            have h1 := hHe.out
            have h2 := hM2l.out
            have h3 := htm.out
            unfold gap at h1
            omega)
          have hLH : Hd (M2.length ≤ 200030) := hid (by have := hM2l.out; have := hlen.out; omega)
          clear ho hM2l htm hlen hts
          have ho := ho2
          clear ho2 hg2
          go_loopg [12] (H + 1) (fun kq v12 wr => ∃ j : Nat, j ≤ H ∧ Hd (kq + j = H + 1) ∧ Own wr B 5 .u8 v12 (M2 ++ List.replicate j 0) ∧ TG w wr g4 g5 g8 key nonce ∧ Blk wr g10 23 (ints .u8 O) ∧ B ≤ wr.heap.size)
          case atStart => exact ⟨0, by omega, hid (by omega), by simpa using ho, hT, hb10, hBs⟩
          case round =>
            clear ho hT hb10 hBs
            obtain ⟨j, hj, hq, ho, hT, hb10, hBs⟩ := hrel
            obtain ⟨ts, hts⟩ : ∃ ts, Hd (M2 ++ List.replicate j 0 = ts) := ⟨_, ⟨rfl⟩⟩
            have hlen : Hd (ts.length ≤ 200050) := hid (by rw [← hts.out, List.length_append, List.length_replicate]; have := hLH.out; omega)
            rw [hts.out] at ho
            obtain ⟨A1, c1, hv, hc1, hA1, hr1⟩ := id ho.parts
            obtain ⟨L, hL⟩ : ∃ L, Hd (ts.length = L) := ⟨_, ⟨rfl⟩⟩
            rw [hL.out] at hv hc1
            have hmod : L % 16 = 0 ↔ j = H := by
              have e : L = (M2).length + j := by rw [← hL.out, ← hts.out, List.length_append, List.length_replicate]
              rw [e]; exact hGH.out j hj
            subst hv
            obtain ⟨r, hr⟩ : ∃ r : Nat, Hd (L % 16 = r) := ⟨_, ⟨rfl⟩⟩
            have h1 : (L : Int).tmod 16 = (r : Int) := by rw [Int.tmod_eq_emod_of_nonneg (by omega), ← hr.out]; omega
            have h1' : (L : Int) % 16 = (r : Int) := by rw [← hr.out]; omega
            have HR1 := hid hr1
            clear hr1
            by_cases hlt : j < H
            · have hr0 : ((r : Int) != 0) = true := by have := hr.out; have := hmod; rw [bne_iff_ne]; omega
              have hr0' : ((r : Int) == 0) = false := by have := hr.out; have := hmod; rw [beq_eq_false_iff_ne]; omega
              have hts1 : Hd (ts ++ [0] = M2 ++ List.replicate (j + 1) 0) := hid (by rw [← hts.out, snoc_zeroR])
              have HJ := hid hlt
              clear hmod hlt
              go_wp2_with (first
                | (at_builtin; refine append_one rfl (.tmp 43) (.tmp 44) 25 rfl B 5 .u8 1 undBytes infoU8 _ ts rfl ho 0 rfl (by have := hlen.out; omega) (by have := hlen.out; omega) hBs ?_; intro v' w2 ho' hg'; rw [hts1.out] at ho')
                | fail)
              go_roundg (gk - 1)
              case measure => have := hq.out; omega
              case rel => have hx := hBx.out; exact ⟨j + 1, by have := HJ.out; omega, hid (by have := hq.out; omega), ho', hT.grown ho hg' hx.1 hx.2.1 hx.2.2.1 hx.2.2.2.1, hb10.grown hg' (fun he => ho.ne_lt hx.2.2.2.2 he.symm), Nat.le_trans hBs hg'.size⟩
            · have hjg : j = H := by omega
              have hr0 : ((r : Int) != 0) = false := by have := hr.out; have := hmod; rw [bne_eq_false_iff_eq]; omega
              have hr0' : ((r : Int) == 0) = true := by have := hr.out; have := hmod; rw [beq_iff_eq]; omega
              clear hmod hlt
              subst hjg
              obtain ⟨M3, hM3⟩ : ∃ M3, Hd (padTo (padTo [] ad) b = M3) := ⟨_, ⟨rfl⟩⟩
              have hts3 : Hd (ts = M3) := hid (by rw [← hts.out, ← hM3.out, padTo, ← hM2.out, ← hM1.out, ← HN'.out, hHe.out])
              have hM3l : Hd (M3.length ≤ 200050) := hid (by rw [← hts3.out]; exact hlen.out)
              rw [hts3.out] at ho
              clear hts hts3 hL hM1 hM2
              go_wp2_with fail
              go_loopg [12, 13] 9 (fun kq v12 v13 wr => ∃ j : Nat, j ≤ 8 ∧ v13 = .int .i64 j ∧ Hd (kq + j = 9) ∧ Own wr B 5 .u8 v12 (M3 ++ lenTo n j) ∧ TG w wr g4 g5 g8 key nonce ∧ Blk wr g10 23 (ints .u8 O) ∧ B ≤ wr.heap.size)
              case atStart => exact ⟨0, by omega, rfl, hid (by omega), by simpa [lenTo] using ho, hT, hb10, hBs⟩
              case round =>
                clear ho hT hb10 hBs
                obtain ⟨j, hj, rfl, hq, ho, hT, hb10, hBs⟩ := hrel
                obtain ⟨ts, hts⟩ : ∃ ts, Hd (M3 ++ lenTo n j = ts) := ⟨_, ⟨rfl⟩⟩
                have hlen : Hd (ts.length ≤ 200060) := hid (by rw [← hts.out, List.length_append, lenTo_length]; have := hM3l.out; omega)
                rw [hts.out] at ho
                by_cases hlt : j < 8
                · have hts1 : Hd (ts ++ [(n : Int) / 2 ^ (8 * j) % 256] = M3 ++ lenTo n (j + 1)) := hid (by rw [← hts.out, lenTo_succ, ← List.append_assoc])
                  go_wp2_with (first
                    | (at_builtin; refine append_one rfl (.tmp 50) (.tmp 59) 25 rfl B 5 .u8 1 undBytes infoU8 _ ts rfl ho _ rfl (by have := hlen.out; omega) (by have := hlen.out; omega) hBs ?_; intro v' w2 ho' hg')
                    | fail)
                  rw [hts1.out] at ho'
                  go_roundg (gk - 1)
                  case measure => have := hq.out; omega
                  case rel => have hx := hBx.out; exact ⟨j + 1, by omega, by go_num, hid (by have := hq.out; omega), ho', hT.grown ho hg' hx.1 hx.2.1 hx.2.2.1 hx.2.2.2.1, hb10.grown hg' (fun he => ho.ne_lt hx.2.2.2.2 he.symm), Nat.le_trans hBs hg'.size⟩
                · obtain rfl : j = 8 := by omega
                  clear hlt hj hq
                  obtain ⟨M4, hM4⟩ : ∃ M4, Hd (M3 ++ lenTo n 8 = M4) := ⟨_, ⟨rfl⟩⟩
                  have hts4 : Hd (ts = M4) := hid (by rw [← hts.out, hM4.out])
                  have hM4l : Hd (M4.length ≤ 200060) := hid (by rw [← hts4.out]; exact hlen.out)
                  rw [hts4.out] at ho
                  clear hts hts4 hlen
                  go_wp2_with fail
                  go_loopg [12, 14] 9 (fun kq v12 v14 wr => ∃ j : Nat, j ≤ 8 ∧ v14 = .int .i64 j ∧ Hd (kq + j = 9) ∧ Own wr B 5 .u8 v12 (M4 ++ lenTo n' j) ∧ TG w wr g4 g5 g8 key nonce ∧ Blk wr g10 23 (ints .u8 O) ∧ B ≤ wr.heap.size)
                  case atStart => exact ⟨0, by omega, rfl, hid (by omega), by simpa [lenTo] using ho, hT, hb10, hBs⟩
                  case round =>
                    clear ho hT hb10 hBs
                    obtain ⟨j, hj, rfl, hq, ho, hT, hb10, hBs⟩ := hrel
                    obtain ⟨ts, hts⟩ : ∃ ts, Hd (M4 ++ lenTo n' j = ts) := ⟨_, ⟨rfl⟩⟩
                    have hlen : Hd (ts.length ≤ 200080) := hid (by rw [← hts.out, List.length_append, lenTo_length]; have := hM4l.out; omega)
                    rw [hts.out] at ho
                    by_cases hlt : j < 8
                    · have hts1 : Hd (ts ++ [(n' : Int) / 2 ^ (8 * j) % 256] = M4 ++ lenTo n' (j + 1)) := hid (by rw [← hts.out, lenTo_succ, ← List.append_assoc])
                      go_wp2_with (first
                        | (at_builtin; refine append_one rfl (.tmp 65) (.tmp 74) 25 rfl B 5 .u8 1 undBytes infoU8 _ ts rfl ho _ rfl (by have := hlen.out; omega) (by have := hlen.out; omega) hBs ?_; intro v' w2 ho' hg')
                        | fail)
                      rw [hts1.out] at ho'
                      go_roundg (gk - 1)
                      case measure => have := hq.out; omega
                      case rel => have hx := hBx.out; exact ⟨j + 1, by omega, by go_num, hid (by have := hq.out; omega), ho', hT.grown ho hg' hx.1 hx.2.1 hx.2.2.1 hx.2.2.2.1, hb10.grown hg' (fun he => ho.ne_lt hx.2.2.2.2 he.symm), Nat.le_trans hBs hg'.size⟩
                    · obtain rfl : j = 8 := by omega
                      clear hlt hj hq
                      have hM5 : Hd (ts = tagText ad b) := hid (by rw [← hts.out, ← hM4.out, ← hM3.out, tagText, HN.out, HN'.out])
                      clear hM4 hM3 hts
                      obtain ⟨A1, c1, hv, hc1, hA1, hr1⟩ := id ho.parts
                      have hML : Hd (ts.length ≤ 200080) := hid hlen.out
                      obtain ⟨L, hL⟩ : ∃ L, Hd (ts.length = L) := ⟨_, ⟨rfl⟩⟩
                      rw [hL.out] at hv hc1
                      subst hv
                      have rts : bytesOk ts := by rw [hM5.out]; exact rM
                      rw [← hM5.out] at hTG
                      have hOl2 : Hd (O.length = 32) := hid hOl.out
                      have rO : bytesOk O := by rw [← hO32.out]; exact bytesOk_take rS 32
                      go_wp2_with (first
                        | (refine load_blk rfl 23 _ rfl g10 rfl 23 _ hb10 32 5 arr23 (by simpa using hOl2.out) info23 ?_)
                        | (go_at_call 54; refine (tag1_calls O ts A1 L _ wr hOl2.out rO hL.out.symm hr1 rts (by have := hML.out; omega)).mono ?_
                           rintro e w3 ⟨he3, hB3⟩; rw [hTG.out] at he3; subst he3
                           replace hT := hT.below hB3)
                        | (refine store_blk rfl 46 _ _ rfl g8 (ints .u8 (tagOf key nonce ad b)) rfl rfl 46 _ hT.t 16 infoT16 (by simp [ints, tagOf_length]) (by simp) (ints_one _ _) ?_)
                        | fail)
                      refine bodyPost_ret (results_blk rfl _ _ g8 46 _ 16 5 rfl (hT.t.setRow _) undT16 (by simp [ints, tagOf_length]) infoT16) rfl ?_
                      exact ⟨rfl, below_setRow hT.bel (by have := hz.out; omega) _⟩
end Go.Proofs.YtpmmmbilfblcpaaDoor
