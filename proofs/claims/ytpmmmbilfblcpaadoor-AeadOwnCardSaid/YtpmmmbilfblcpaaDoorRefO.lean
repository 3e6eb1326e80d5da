/- The reference's Seal and Open. -/
import Derived.Test.YtpmmmbilfblcpaaDoorRefS
namespace Go.Proofs.YtpmmmbilfblcpaaDoor
open Go.RowKit Go.Cour
set_option maxHeartbeats 1000000 in
set_option maxRecDepth 100000 in
theorem seal1_calls (key nonce ad b : List Int) (A A' : Option Addr) (c c' n n' : Nat) (w : World) (hk : key.length = 32) (hnl : nonce.length = 12) (rk : bytesOk key) (rn : bytesOk nonce)
    (hn : n = ad.length) (hr : Rd w A .u8 ad) (ra : bytesOk ad) (hn' : n' = b.length) (hr' : Rd w A' .u8 b) (rb : bytesOk b) (hla : ad.length ≤ 100000) (hlb : b.length ≤ 100000) :
    Calls Tryd.prog 14 #[.agg (ints .u8 key).toArray, .agg (ints .u8 nonce).toArray, .slice A n c, .slice A' n' c'] w fun e w' => ∃ v, e = .returned v ∧ Own w' w.heap.size 5 .u8 v (sealText key nonce ad b) ∧ Below w.heap.size w w' := by
  have HK := hid hk
  have HNL := hid hnl
  have HN := hid hn
  have HR := hid hr
  have HN' := hid hn'
  have HR' := hid hr'
  clear hk hnl hn hr hn' hr'
  obtain ⟨X, hX⟩ : ∃ X, Hd (xorStream key 1 nonce b = X) := ⟨_, hid rfl⟩
  have hXl : Hd (X.length = n') := hid (by rw [← hX.out, xorStream_length, HN'.out])
  have rX : bytesOk X := by rw [← hX.out]; exact xorStream_ok key 1 nonce b rb
  obtain ⟨T, hT⟩ : ∃ T, Hd (tagOf key nonce ad X = T) := ⟨_, hid rfl⟩
  have hTl : Hd (T.length = 16) := hid (by rw [← hT.out]; exact tagOf_length _ _ _ _)
  have hXT : Hd (X ++ T = sealText key nonce ad b) := hid (by rw [sealText, hX.out, hT.out])
  have hlb' : n' ≤ 100000 := by rw [HN'.out]; exact hlb
  go_enter Tryd.func14, Tryd.ntmps14
  go_wp2_with (first
    | (refine box_blk rfl 23 _ rfl _ rfl (ints .u8 key) rfl ?_; intro g4 w1 hg4 hb4 hB1 hs1)
    | (refine box_blk rfl 24 _ rfl _ rfl (ints .u8 nonce) rfl ?_; intro g5 w2 hg5 hb5 hB2 hs2
       replace hb4 := hb4.belowAll hB2
       have hBa : Below w.heap.size w w2 := below_then hB1 hB1.size hB2
       clear hB1 hB2 hg4 hg5 hs1 hs2)
    | (refine load_blk rfl 23 _ rfl g4 rfl 23 _ hb4 32 5 arr23 (by simpa using HK.out) info23 ?_)
    | (refine load_blk rfl 24 _ rfl g5 rfl 24 _ hb5 12 5 arr24 (by simpa using HNL.out) info24 ?_)
    | (go_at_call 37; refine (xor1_calls key nonce b 1 A' n' c' w2 HN'.out HK.out HNL.out rk rn (by omega) (HR'.out.below hBa) (by omega)).mono ?_
       rintro e w3 ⟨v, rfl, ho, hB3⟩
       rw [hX.out] at ho
       replace hb4 := hb4.belowAll hB3
       replace hb5 := hb5.belowAll hB3
       have hBb : Below w.heap.size w w3 := below_then hBa hBa.size hB3
       obtain ⟨A1, c1, hv, hc1, hA1, hr1⟩ := id ho.parts
       rw [hXl.out] at hv hc1
       subst hv
       clear hB3)
    | (go_at_call 38; refine (tagged1_calls key nonce ad X A A1 c c1 n n' w3 HK.out HNL.out rk rn HN.out (HR.out.below hBb) ra hXl.out.symm hA1 hr1 rX hla (by rw [hXl.out]; exact hlb')).mono ?_
       rintro e w4 ⟨he4, hB4⟩
       rw [hT.out] at he4
       subst he4)
    | (refine alloc_blk rfl 46 rfl _ rfl (ints .u8 (List.replicate 16 0)) zeroT16 ?_; intro g10 w5 hg10 hb10 hB5 hs5)
    | (refine store_blk rfl 46 _ _ rfl g10 (ints .u8 T) rfl rfl 46 _ hb10 16 infoT16 (by simpa using hTl.out) (by simp) (ints_one _ _) ?_
       replace hb10 := hb10.setRow (ints .u8 T)
       have hBc : Below w3.heap.size w3 (w5.setRow g10 (ints .u8 T).toArray) := below_then hB4 hB4.size (below_setRow hB5 (by omega) _)
       clear hB4 hB5 hg10 hs5
       generalize w5.setRow g10 (ints .u8 T).toArray = w6 at *
       have ho2 := (ho.below hBc).lower hBa.size
       have hBd : Below w.heap.size w w6 := below_then hBb hBb.size hBc)
    | (at_builtin; refine append_list rfl (.tmp 20) (.tmp 21) 25 rfl w.heap.size 5 .u8 1 undBytes infoU8 _ X rfl ho2 (some ⟨g10, 0, none⟩) 16 16 T rfl hTl.out.symm (by intro h; cases h) (Rd.ofBlk hb10) (by rw [hXl.out, hTl.out]; omega) (by rw [hXl.out, hTl.out]; omega) hBd.size ?_; intro v1 w7 ho7 hg7)
    | fail)
  go_ret
  refine ⟨v1, by simp, ?_, ?_⟩
  · rw [← hXT.out]; exact ho7
  · exact ho2.grown_below hBd hg7 hBd.size (Nat.le_refl _)
/-- Two results of the reference: bytes, a number. -/
def Opened1 (w' : World) (base : Nat) (r : List Int ⊕ Nat) (v : Value) (k : Int) : Prop := match r with
  | .inl xs => k = 0 ∧ Own w' base 5 .u8 v xs
  | .inr j => k = 101 + (j : Int) ∧ v = .slice none 0 0
set_option maxHeartbeats 2000000 in
set_option maxRecDepth 100000 in
theorem open1_calls (key nonce ad b : List Int) (A A' : Option Addr) (c c' n n' : Nat) (w : World) (hk : key.length = 32) (hnl : nonce.length = 12) (rk : bytesOk key) (rn : bytesOk nonce)
    (hn : n = ad.length) (hr : Rd w A .u8 ad) (ra : bytesOk ad) (hn' : n' = b.length) (hc' : n' ≤ c') (hr' : Rd w A' .u8 b) (rb : bytesOk b) (hla : ad.length ≤ 100000) (hlb : b.length ≤ 100000) :
    Calls Tryd.prog 18 #[.agg (ints .u8 key).toArray, .agg (ints .u8 nonce).toArray, .slice A n c, .slice A' n' c'] w fun e w' => ∃ v k, e = .returned (.tuple #[v, .int .i64 k]) ∧ Opened1 w' w.heap.size (openOf key nonce ad b) v k ∧ Below w.heap.size w w' := by
  have HK := hid hk
  have HNL := hid hnl
  have HN := hid hn
  have HR := hid hr
  have HN' := hid hn'
  have HR' := hid hr'
  have hlb' : n' ≤ 100000 := by omega
  clear hk hnl hn hr hn' hr'
  by_cases hs : n' < 16
  · have hop : Hd (openOf key nonce ad b = .inr 2) := hid (by rw [openOf, if_pos (by rw [← HN'.out]; exact hs)])
    rw [hop.out]
    have hs1 : (n' : Int) < 16 := by omega
    go_enter Tryd.func18, Tryd.ntmps18
    go_wp2_with (first
      | (refine box_blk rfl 23 _ rfl _ rfl (ints .u8 key) rfl ?_; intro g4 w1 hg4 hb4 hB1 hs1)
      | (refine box_blk rfl 24 _ rfl _ rfl (ints .u8 nonce) rfl ?_; intro g5 w2 hg5 hb5 hB2 hs2
         have hB := below_then hB1 hB1.size hB2
         clear hg4 hg5 hs1 hs2)
      | fail)
    refine bodyPost_ret (results_tmp2 rfl _ _ rfl rfl) rfl ?_
    exact ⟨_, _, rfl, ⟨rfl, rfl⟩, hB⟩
  · obtain ⟨k, hk16⟩ : ∃ k : Nat, n' = k + 16 := ⟨n' - 16, by omega⟩
    have hk16' : Hd (n' = k + 16) := hid hk16
    have hs1 : ¬ (n' : Int) < 16 := by omega
    obtain ⟨g, o, hA'⟩ := HR'.out.at (by rw [← HN'.out]; omega)
    subst hA'
    obtain ⟨cs, hcs⟩ : ∃ cs, Hd (b.take k = cs) := ⟨_, ⟨rfl⟩⟩
    obtain ⟨ls, hls⟩ : ∃ ls, Hd (b.drop k = ls) := ⟨_, ⟨rfl⟩⟩
    have hcl : Hd (k = cs.length) := hid (by rw [← hcs.out, List.length_take, ← HN'.out]; omega)
    have hll : Hd (16 = ls.length) := hid (by rw [← hls.out, List.length_drop, ← HN'.out]; omega)
    have hrc : Hd (Rd w (some ⟨g, o, none⟩) .u8 cs) := hid (by rw [← hcs.out]; exact HR'.out.take k)
    have hrl : Hd (Rd w (some ⟨g, o + k, none⟩) .u8 ls) := hid (by
      have := rd_slice HR'.out k
      rw [Option.map_some, add_lit, hls.out] at this
      exact this)
    have rcs : bytesOk cs := by rw [← hcs.out]; exact bytesOk_take rb k
    have w1f : (n' : Int) - 16 = (k : Int) := by omega
    have hck : ¬ c' = k := by omega
    have hop : Hd (openOf key nonce ad b = if tagOf key nonce ad cs = ls then .inl (xorStream key 1 nonce cs) else .inr 8) := hid (by
      rw [openOf, if_neg (by rw [← HN'.out]; omega)]
      have e : b.length - 16 = k := by rw [← HN'.out]; omega
      rw [e, hcs.out, hls.out])
    have hkn : (k : Int) ≤ (n' : Int) := by omega
    clear hk16
    have e16 : n' - k = 16 := by have := hk16'.out; omega
    obtain ⟨T, hT⟩ : ∃ T, Hd (tagOf key nonce ad cs = T) := ⟨_, ⟨rfl⟩⟩
    have htl : Hd (T.length = 16) := hid (by rw [← hT.out]; exact tagOf_length key nonce ad cs)
    rw [hT.out] at hop
    go_enter Tryd.func18, Tryd.ntmps18
    go_wp2_with (first
      | (refine box_blk rfl 23 _ rfl _ rfl (ints .u8 key) rfl ?_; intro g4 w1 hg4 hb4 hB1 hs1)
      | (refine box_blk rfl 24 _ rfl _ rfl (ints .u8 nonce) rfl ?_; intro g5 w2 hg5 hb5 hB2 hs2
         have hB := below_then hB1 hB1.size hB2
         replace hb4 := hb4.belowAll hB2
         clear hg4 hg5 hs1 hs2 hB1 hB2)
      | (refine load_blk rfl 23 _ rfl g4 rfl 23 _ hb4 32 5 arr23 (by simpa using HK.out) info23 ?_)
      | (refine load_blk rfl 24 _ rfl g5 rfl 24 _ hb5 12 5 arr24 (by simpa using HNL.out) info24 ?_)
      | (go_at_call 38; refine (tagged1_calls key nonce ad cs A (some ⟨g, o, none⟩) c c' n k w2 HK.out HNL.out rk rn HN.out (HR.out.below hB) ra hcl.out (by intro h; cases h) (hrc.out.below hB) rcs hla (by rw [← hcl.out]; omega)).mono ?_
         rintro e w4 ⟨he4, hB4⟩; rw [hT.out] at he4; subst he4
         replace hb4 := hb4.belowAll hB4
         replace hb5 := hb5.belowAll hB4)
      | (refine alloc_blk rfl 46 rfl _ rfl (ints .u8 (List.replicate 16 0)) zeroT16 ?_; intro g11 w5 hg11 hb11 hB5 hs5)
      | (refine store_blk rfl 46 _ _ rfl g11 (ints .u8 T) rfl rfl 46 _ hb11 16 infoT16 (by simpa using htl.out) (by simp) (ints_one _ _) ?_
         replace hb11 := hb11.setRow (ints .u8 T)
         have hBc : Below w4.heap.size w4 (w5.setRow g11 (ints .u8 T).toArray) := below_setRow hB5 (by omega) _
         replace hb4 := hb4.belowAll hBc
         replace hb5 := hb5.belowAll hBc
         have hBd : Below w.heap.size w (w5.setRow g11 (ints .u8 T).toArray) := below_then hB hB.size (below_then hB4 hB4.size hBc)
         clear hB4 hB5 hg11 hs5 hBc
         generalize w5.setRow g11 (ints .u8 T).toArray = w6 at *)
      | fail)
    have a1 : IntKind.i64.wrap (k : Int) = (k : Int) := IntWalk.i64_in _ (by omega)
    have hrT := Rd.ofBlk hb11
    have hrL := hrl.out.below hBd
    go_quiet ((go_at_call 13; exact Calls.quiet_of (same_calls T ls (some ⟨g11, 0, none⟩) (some ⟨g, o + k, none⟩) _ _ 16 _ _ htl.out.symm (by first | exact hll.out | (rw [← hll.out]; omega)) (hrT.drewN _) (hrL.drewN _) (by rw [htl.out]; omega) (by rw [← hll.out]; omega))))
    by_cases hte : T = ls
    · have hdt := decide_eq_true hte
      have hop2 : Hd (openOf key nonce ad b = .inl (xorStream key 1 nonce cs)) := hid (by rw [hop.out, if_pos hte])
      have hdt := hid hdt
      clear hop
      rw [hdt.out]
      generalize hW : w6.drewN _ = w7
      have hB8 : Below w.heap.size w w7 := by rw [← hW]; exact below_drewN hBd _
      replace hb4 : Blk w7 g4 23 (ints .u8 key) := by rw [← hW]; exact hb4.drewN _
      replace hb5 : Blk w7 g5 24 (ints .u8 nonce) := by rw [← hW]; exact hb5.drewN _
      clear hW hB hBd hb11 hrT hrL hte
      go_wp2_with (first
        | (refine load_blk rfl 23 _ rfl g4 rfl 23 _ hb4 32 5 arr23 (by simpa using HK.out) info23 ?_)
        | (refine load_blk rfl 24 _ rfl g5 rfl 24 _ hb5 12 5 arr24 (by simpa using HNL.out) info24 ?_)
        | (go_at_call 37; refine (xor1_calls key nonce cs 1 (some ⟨g, o, none⟩) k c' w7 hcl.out HK.out HNL.out rk rn (by omega) (hrc.out.below hB8) (by rw [← hcl.out]; omega)).mono ?_
           rintro e w8 ⟨v, rfl, ho, hB9⟩)
        | fail)
      refine bodyPost_ret (results_tmp2 rfl _ _ rfl rfl) rfl ?_
      refine ⟨_, _, rfl, ?_, below_then hB8 hB8.size hB9⟩
      rw [hop2.out]
      exact ⟨rfl, ho.lower hB8.size⟩
    · have hdf := hid (decide_eq_false hte)
      have hop2 : Hd (openOf key nonce ad b = .inr 8) := hid (by rw [hop.out, if_neg hte])
      clear hop
      rw [hdf.out]
      clear hte
      go_wp2_with fail
      refine bodyPost_ret (results_tmp2 rfl _ _ rfl rfl) rfl ?_
      refine ⟨_, _, rfl, ?_, below_drewN hBd _⟩
      rw [hop2.out]
      exact ⟨rfl, rfl⟩
end Go.Proofs.YtpmmmbilfblcpaaDoor
