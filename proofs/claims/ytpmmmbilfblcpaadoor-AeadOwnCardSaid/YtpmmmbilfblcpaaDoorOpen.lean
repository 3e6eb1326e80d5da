/- aead.Open. -/
import Derived.Test.YtpmmmbilfblcpaaDoorAeC
import Derived.Test.YtpmmmbilfblcpaaDoorErrD
import Derived.Test.YtpmmmbilfblcpaaDoorEqual
namespace Go.Proofs.YtpmmmbilfblcpaaDoor
open Go.RowKit Go.Cour
/-- Two results, each in a slot. -/
theorem results_tmp2 {P : Program} {fn : Func} {p q : Tmp} (h : fn.results = #[.tmp p, .tmp q]) (tmps : Array Value) (w : World) {u v : Value} (hp : tmps.getD p undef = u) (hq : tmps.getD q undef = v) :
    (results fn tmps).run P w = .ok (.tuple #[u, v]) w := by
  have hp' : tmps[p]?.getD undef = u := by simpa using hp
  have hq' : tmps[q]?.getD undef = v := by simpa using hq
  simp [results, h, hp', hq']
theorem bytesOk_set {xs : List Int} (h : bytesOk xs) (i : Nat) (x : Int) (h0 : 0 ≤ x ∧ x < 256) : bytesOk (xs.set i x) := by
  intro j
  rw [rd_set']
  split
  · exact h0
  · exact h j
theorem bytesOk_zeros' (n : Nat) : bytesOk (List.replicate n 0) := by
  intro i
  unfold rd
  rw [List.getD_eq_getElem?_getD, List.getElem?_replicate]
  split <;> simp
theorem outS_ok (l h : Int) (key : List Int) : ∀ n, bytesOk (outS l h key n).1
  | 0 => by rw [outS_zero]; exact bytesOk_zeros' 16
  | n + 1 => by
    rw [outS_succ]
    exact bytesOk_set (outS_ok l h key n) _ _ ⟨Int.emod_nonneg _ (by decide), Int.emod_lt_of_pos _ (by decide)⟩
theorem tagOf_ok (key nonce ad b : List Int) : bytesOk (tagOf key nonce ad b) := outS_ok _ _ _ _
theorem bytesOk_drop {xs : List Int} (h : bytesOk xs) (n : Nat) : bytesOk (xs.drop n) := fun i => by rw [rd_drop]; exact h _
theorem bytesOk_take {xs : List Int} (h : bytesOk xs) (n : Nat) : bytesOk (xs.take n) := fun i => by
  by_cases hi : i < n
  · rw [rd_take _ _ _ hi]; exact h i
  · unfold rd; rw [List.getD_eq_getElem?_getD, List.getElem?_take, if_neg hi]; simp
theorem rd_slice {w : World} {A : Option Addr} {k : IntKind} {xs : List Int} (h : Rd w A k xs) (f : Nat) : Rd w (A.map (·.add f)) k (xs.drop f) := by
  rcases h with h | ⟨g, o, rfl, h⟩
  · exact .inl (by rw [h]; simp)
  · refine .inr ⟨g, o + f, by rw [Option.map_some, add_lit], fun i hi => ?_⟩
    rw [rd_drop, Nat.add_assoc]
    exact h _ (by rw [List.length_drop] at hi; omega)
theorem xor_calls' (key nonce xs : List Int) (c : Int) (A : Option Addr) (n cap : Nat) (w : World) (hn : n = xs.length) (hk : key.length = 32) (hnl : nonce.length = 12) (rk : bytesOk key) (rn : bytesOk nonce) (hc : 0 ≤ c ∧ c < 4294967296)
    (hr : Rd w A .u8 xs) (hl : xs.length ≤ 1000000) :
    Calls Tryd.prog 20 #[.agg (ints .u8 key).toArray, .int .u32 c, .agg (ints .u8 nonce).toArray, .slice A n cap] w fun e w' =>
      ∃ g, e = .returned (.slice (some ⟨g, 0, none⟩) n n) ∧ w.heap.size ≤ g ∧ Blk w' g 5 (ints .u8 (xorStream key c nonce xs)) ∧ Below w.heap.size w w' := by
  subst hn
  exact xor_calls key nonce xs c A cap w hk hnl rk rn hc hr hl
/-- What a seal opens to; or why not (2: too short, 8: another tag). -/
def openOf (key nonce ad b : List Int) : List Int ⊕ Nat :=
  if b.length < 16 then .inr 2
  else if tagOf key nonce ad (b.take (b.length - 16)) = b.drop (b.length - 16) then .inl (xorStream key 1 nonce (b.take (b.length - 16)))
  else .inr 8
/-- Two results: bytes, an error. -/
def Opened (w' : World) (base : Nat) (P : Nat → Addr) (r : List Int ⊕ Nat) (v er : Value) : Prop := match r with
  | .inl xs => er = .nilIface ∧ Own w' base 5 .u8 v xs
  | .inr k => er = errV (P k) ∧ v = .slice none 0 0
set_option maxHeartbeats 1000000 in
set_option maxRecDepth 100000 in
theorem open_calls (key nonce ad b : List Int) (A A' : Option Addr) (c c' n n' : Nat) {w : World} {P : Nat → Addr} (hE : Errs2 w P) (hk : key.length = 32) (hnl : nonce.length = 12) (rk : bytesOk key) (rn : bytesOk nonce)
    (hn : n = ad.length) (hA : A = none → c = 0) (hr : Rd w A .u8 ad) (hn' : n' = b.length) (hc' : n' ≤ c') (hr' : Rd w A' .u8 b) (rb : bytesOk b) (hla : ad.length ≤ 100000) (hlb : b.length ≤ 100000) :
    Calls Tryd.prog 17 #[.agg (ints .u8 key).toArray, .agg (ints .u8 nonce).toArray, .slice A n c, .slice A' n' c'] w fun e w' => ∃ v er, e = .returned (.tuple #[v, er]) ∧ Opened w' w.heap.size P (openOf key nonce ad b) v er ∧ Below w.heap.size w w' := by
  have HN := hid hn
  have HN' := hid hn'
  have HR := hid hr
  have HR' := hid hr'
  rw [← hn'] at hlb
  clear hn hn' hr hr'
  by_cases hs : n' < 16
  · have hop : Hd (openOf key nonce ad b = .inr 2) := hid (by rw [openOf, if_pos (by rw [← HN'.out]; exact hs)])
    rw [hop.out]
    have hs1 : (n' : Int) < 16 := by omega
    go_enter Tryd.func17, Tryd.ntmps17
    go_wp2_with (first
      | (refine box_blk rfl 23 _ rfl _ rfl (ints .u8 key) rfl ?_; intro g4 w1 hg4 hb4 hB1 hs1)
      | (refine box_blk rfl 24 _ rfl _ rfl (ints .u8 nonce) rfl ?_; intro g5 w2 hg5 hb5 hB2 hs2
         have hB := below_then hB1 hB1.size hB2
         have hc0 := (hE.below hB).1
         clear hg4 hg5 hs1 hs2)
      | fail)
    go_quiet (fail)
    go_wp2_with fail
    refine bodyPost_ret (results_tmp2 rfl _ _ rfl rfl) rfl ?_
    exact ⟨_, _, rfl, ⟨rfl, rfl⟩, below_drewN hB _⟩
  · obtain ⟨k, hk16⟩ : ∃ k : Nat, n' = k + 16 := ⟨n' - 16, by omega⟩
    have hk16' : Hd (n' = k + 16) := hid hk16
    have hs1 : ¬ (n' : Int) < 16 := by omega
    obtain ⟨g, o, hA'⟩ := HR'.out.at (by rw [← HN'.out]; omega)
    subst hA'
    obtain ⟨cs, hcs⟩ : ∃ cs, Hd (b.take k = cs) := ⟨_, ⟨rfl⟩⟩
    obtain ⟨ls, hls⟩ : ∃ ls, Hd (b.drop k = ls) := ⟨_, ⟨rfl⟩⟩
    have hcl : Hd (k = cs.length) := hid (by rw [← hcs.out, List.length_take, ← HN'.out]; omega)
    have hll : Hd (16 = ls.length) := hid (by rw [← hls.out, List.length_drop, ← HN'.out]; omega)
    have hrc : Hd (Rd w (some ⟨g, o, none⟩) .u8 cs) := hid (by rw [← hcs.out]; exact HR'.out.take k)
    have hrl : Hd (Rd w (some ⟨g, o + k, none⟩) .u8 ls) := hid (by
      have := rd_slice HR'.out k
      rw [Option.map_some, add_lit, hls.out] at this
      exact this)
    have rl : bytesOk ls := by rw [← hls.out]; exact bytesOk_drop rb k
    have w1f : (n' : Int) - 16 = (k : Int) := by omega
    have hck : ¬ c' = k := by omega
    have hop : Hd (openOf key nonce ad b = if tagOf key nonce ad cs = ls then .inl (xorStream key 1 nonce cs) else .inr 8) := hid (by
      rw [openOf, if_neg (by rw [← HN'.out]; omega)]
      have e : b.length - 16 = k := by rw [← HN'.out]; omega
      rw [e, hcs.out, hls.out])
    have hkn : (k : Int) ≤ (n' : Int) := by omega
    clear hk16
    go_enter Tryd.func17, Tryd.ntmps17
    go_wp2_with (first
      | (refine box_blk rfl 23 _ rfl _ rfl (ints .u8 key) rfl ?_; intro g4 w1 hg4 hb4 hB1 hs1)
      | (refine box_blk rfl 24 _ rfl _ rfl (ints .u8 nonce) rfl ?_; intro g5 w2 hg5 hb5 hB2 hs2
         have hB := below_then hB1 hB1.size hB2
         have hb4' := hb4.belowAll hB2
         have hEB := hE.below hB
         clear hg4 hg5 hs1 hs2)
      | fail)
    go_quiet (fail)
    generalize hW3 : World.drewN w2 _ = w3
    have hB3 : Below w.heap.size w w3 := by rw [← hW3]; exact below_drewN hB _
    have hb4'' : Blk w3 g4 23 (ints .u8 key) := by rw [← hW3]; exact hb4'.drewN _
    have hb5'' : Blk w3 g5 24 (ints .u8 nonce) := by rw [← hW3]; exact hb5.drewN _
    clear hW3 hb4' hb5 hB1 hB2 hB hEB hb4
    have e16 : n' - k = 16 := by have := hk16'.out; omega
    have htl := tagOf_length key nonce ad cs
    have hto := tagOf_ok key nonce ad cs
    obtain ⟨T, hT⟩ : ∃ T, Hd (tagOf key nonce ad cs = T) := ⟨_, ⟨rfl⟩⟩
    rw [hT.out] at htl hto hop
    have htl := hid htl
    by_cases hte : T = ls
    · have hdt := hid (decide_eq_true hte)
      have hop2 : Hd (openOf key nonce ad b = .inl (xorStream key 1 nonce cs)) := hid (by rw [hop.out, if_pos hte])
      clear hte hop
      go_wp2_with (first
        | (refine load_blk rfl 23 _ rfl g4 rfl 23 _ hb4x 32 5 arr23 (by simp [ints, hk]) info23 ?_)
        | (refine load_blk rfl 24 _ rfl g5 rfl 24 _ hb5x 12 5 arr24 (by simp [ints, hnl]) info24 ?_)
        | (refine load_blk rfl 23 _ rfl g4 rfl 23 _ hb4'' 32 5 arr23 (by simp [ints, hk]) info23 ?_)
        | (refine load_blk rfl 24 _ rfl g5 rfl 24 _ hb5'' 12 5 arr24 (by simp [ints, hnl]) info24 ?_)
        | (go_at_call 36; refine (tag_calls key nonce ad cs A (some ⟨g, o, none⟩) c c' n k w3 hk hnl rk rn HN.out hA (HR.out.below hB3) hcl.out (by intro h; cases h) (hrc.out.below hB3) hla (by rw [← hcl.out]; omega)).mono ?_
           rintro e w4 ⟨he4, hB4⟩; rw [hT.out] at he4; subst he4)
        | (refine alloc_blk rfl 46 rfl _ rfl (ints .u8 (List.replicate 16 0)) zeroT16 ?_; intro g8 w5 hg8 hb8 hB5 hs5)
        | (refine store_blk rfl 46 _ _ rfl g8 (ints .u8 T) rfl rfl 46 _ hb8 16 infoT16 (by simp [ints, htl.out]) (by simp [ints]) (ints_one _ _) ?_
           have hb8' := hb8.setRow (ints .u8 T)
           have hbw6 := below_setRow (g := g8) hB5 (by omega) (ints .u8 T).toArray
           generalize hW6 : w5.setRow g8 (ints .u8 T).toArray = w6 at *
           have hB46 : Below w3.heap.size w3 w6 := below_then hB4 hB4.size hbw6
           have hB6 := below_then hB3 hB3.size hB46
           clear hg8 hs5 hW6)
        | (go_at_call 39; refine (equal_calls T ls (some ⟨g8, 0, none⟩) (some ⟨g, o + k, none⟩) _ _ 16 _ w6 htl.out.symm (by first | exact hll.out | (rw [← hll.out]; omega)) (Rd.ofBlk hb8') (hrl.out.below hB6) (by omega) (by omega) hto rl).mono ?_
           rintro e w7 ⟨he7, q7, hw7⟩; rw [hdt.out] at he7; subst he7
           have hB8 : Below w.heap.size w w7 := by rw [hw7]; exact below_drewN hB6 q7
           have hB38 : Below w3.heap.size w3 w7 := by rw [hw7]; exact below_drewN hB46 q7
           clear hw7
           have hb4x := hb4''.belowAll hB38
           have hb5x := hb5''.belowAll hB38)
        | (go_at_call 20; refine (xor_calls' key nonce cs 1 (some ⟨g, o, none⟩) k c' w7 hcl.out hk hnl rk rn (by omega) (hrc.out.below hB8) (by rw [← hcl.out]; omega)).mono ?_
           rintro e w8 ⟨gx, rfl, hgx, hbx, hB9⟩)
        | fail)
      refine bodyPost_ret (results_tmp2 rfl _ _ rfl rfl) rfl ?_
      refine ⟨_, _, rfl, ?_, below_then hB8 hB8.size hB9⟩
      rw [hop2.out]
      have hxl := xorStream_length key 1 nonce cs
      have := Own.ofBlk (base := w.heap.size) hbx (by have := hB8.size; omega) (by rw [hxl, ← hcl.out]; unfold maxLen; omega)
      rw [hxl, ← hcl.out] at this
      exact ⟨rfl, this⟩
    · have hdf := hid (decide_eq_false hte)
      have hop2 : Hd (openOf key nonce ad b = .inr 8) := hid (by rw [hop.out, if_neg hte])
      clear hte hop
      go_wp2_with (first
        | (refine load_blk rfl 23 _ rfl g4 rfl 23 _ hb4'' 32 5 arr23 (by simp [ints, hk]) info23 ?_)
        | (refine load_blk rfl 24 _ rfl g5 rfl 24 _ hb5'' 12 5 arr24 (by simp [ints, hnl]) info24 ?_)
        | (go_at_call 36; refine (tag_calls key nonce ad cs A (some ⟨g, o, none⟩) c c' n k w3 hk hnl rk rn HN.out hA (HR.out.below hB3) hcl.out (by intro h; cases h) (hrc.out.below hB3) hla (by rw [← hcl.out]; omega)).mono ?_
           rintro e w4 ⟨he4, hB4⟩; rw [hT.out] at he4; subst he4)
        | (refine alloc_blk rfl 46 rfl _ rfl (ints .u8 (List.replicate 16 0)) zeroT16 ?_; intro g8 w5 hg8 hb8 hB5 hs5)
        | (refine store_blk rfl 46 _ _ rfl g8 (ints .u8 T) rfl rfl 46 _ hb8 16 infoT16 (by simp [ints, htl.out]) (by simp [ints]) (ints_one _ _) ?_
           have hb8' := hb8.setRow (ints .u8 T)
           have hbw6 := below_setRow (g := g8) hB5 (by omega) (ints .u8 T).toArray
           generalize hW6 : w5.setRow g8 (ints .u8 T).toArray = w6 at *
           have hB46 : Below w3.heap.size w3 w6 := below_then hB4 hB4.size hbw6
           have hB6 := below_then hB3 hB3.size hB46
           clear hg8 hs5 hW6)
        | (go_at_call 39; refine (equal_calls T ls (some ⟨g8, 0, none⟩) (some ⟨g, o + k, none⟩) _ _ 16 _ w6 htl.out.symm (by first | exact hll.out | (rw [← hll.out]; omega)) (Rd.ofBlk hb8') (hrl.out.below hB6) (by omega) (by omega) hto rl).mono ?_
           rintro e w7 ⟨he7, q7, hw7⟩; rw [hdf.out] at he7; subst he7; subst hw7)
        | fail)
      have hc1 := (hE.below hB6).2
      go_quiet (fail)
      go_wp2_with fail
      refine bodyPost_ret (results_tmp2 rfl _ _ rfl rfl) rfl ?_
      refine ⟨_, _, rfl, ?_, below_drewN (below_drewN hB6 _) _⟩
      rw [hop2.out]
      exact ⟨rfl, rfl⟩
end Go.Proofs.YtpmmmbilfblcpaaDoor
