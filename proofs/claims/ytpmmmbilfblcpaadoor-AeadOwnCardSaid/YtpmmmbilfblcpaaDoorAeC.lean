/- aead.Seal. -/
import Derived.Test.YtpmmmbilfblcpaaDoorAeB
namespace Go.Proofs.YtpmmmbilfblcpaaDoor
open Go.RowKit Go.Cour
def sealText (key nonce ad b : List Int) : List Int := xorStream key 1 nonce b ++ tagOf key nonce ad (xorStream key 1 nonce b)
theorem tagOf_length (key nonce ad b : List Int) : (tagOf key nonce ad b).length = 16 := polySum_length _ _
set_option maxHeartbeats 400000 in
set_option maxRecDepth 100000 in
theorem seal_calls (key nonce ad b : List Int) (A A' : Option Addr) (c c' n n' : Nat) (w : World) (hk : key.length = 32) (hnl : nonce.length = 12) (rk : bytesOk key) (rn : bytesOk nonce)
    (hn : n = ad.length) (hA : A = none → c = 0) (hr : Rd w A .u8 ad) (hn' : n' = b.length) (hr' : Rd w A' .u8 b) (hla : ad.length ≤ 100000) (hlb : b.length ≤ 100000) :
    Calls Tryd.prog 12 #[.agg (ints .u8 key).toArray, .agg (ints .u8 nonce).toArray, .slice A n c, .slice A' n' c'] w fun e w' => ∃ v, e = .returned v ∧ Own w' w.heap.size 5 .u8 v (sealText key nonce ad b) ∧ Below w.heap.size w w' := by
  subst hn hn'
  have hxl := xorStream_length key 1 nonce b
  obtain ⟨X, hX⟩ : ∃ X, X = xorStream key 1 nonce b := ⟨_, rfl⟩
  rw [← hX] at hxl
  have HX := hid hX
  have HXL := hid hxl
  clear hX hxl
  go_enter Tryd.func12, Tryd.ntmps12
  go_wp2_with (first
    | (refine box_blk rfl 23 _ rfl _ rfl (ints .u8 key) rfl ?_; intro g4 w1 hg4 hb4 hB1 hs1)
    | (refine box_blk rfl 24 _ rfl _ rfl (ints .u8 nonce) rfl ?_; intro g5 w2 hg5 hb5 hB2 hs2
       have hb4' := hb4.belowAll hB2
       have hB12 : Below w.heap.size w w2 := below_then hB1 hB1.size hB2)
    | (refine load_blk rfl 23 _ rfl g4 rfl 23 _ hb4c 32 5 arr23 (by simp [ints, hk]) info23 ?_)
    | (refine load_blk rfl 24 _ rfl g5 rfl 24 _ hb5c 12 5 arr24 (by simp [ints, hnl]) info24 ?_)
    | (refine load_blk rfl 23 _ rfl g4 rfl 23 _ hb4' 32 5 arr23 (by simp [ints, hk]) info23 ?_)
    | (refine load_blk rfl 24 _ rfl g5 rfl 24 _ hb5 12 5 arr24 (by simp [ints, hnl]) info24 ?_)
    | (go_at_call 20; refine (xor_calls key nonce b 1 A' c' w2 hk hnl rk rn (by omega) (hr'.below hB12) (by omega)).mono ?_
       rintro e w3 ⟨g, rfl, hgw, hbx, hB3⟩
       rw [← HX.out] at hbx
       have hb4c := hb4'.belowAll hB3
       have hb5c := hb5.belowAll hB3
       have hB13 : Below w.heap.size w w3 := below_then hB12 hB12.size hB3)
    | (go_at_call 36; refine (tag_calls key nonce ad X A (some ⟨g, 0, none⟩) c b.length ad.length b.length w3 hk hnl rk rn rfl hA (hr.below hB13) HXL.out.symm (by intro h; cases h) (Rd.ofBlk hbx) (by omega) (by rw [HXL.out]; omega)).mono ?_
       rintro e w4 ⟨rfl, hB4⟩)
    | (refine alloc_blk rfl 46 rfl _ rfl (ints .u8 (List.replicate 16 0)) zeroT16 ?_; intro g8 w5 hg8 hb8 hB5 hs5)
    | (refine store_blk rfl 46 _ _ rfl g8 (ints .u8 (tagOf key nonce ad X)) rfl rfl 46 _ hb8 16 infoT16 (by simp [ints, tagOf_length]) (by simp [ints]) (ints_one _ _) ?_
       have hb8' := hb8.setRow (ints .u8 (tagOf key nonce ad X))
       have hbw6 := below_setRow (g := g8) hB5 (by omega) (ints .u8 (tagOf key nonce ad X)).toArray
       generalize hW6 : w5.setRow g8 (ints .u8 (tagOf key nonce ad X)).toArray = w6 at *
       have hB46 : Below w3.heap.size w3 w6 := below_then hB4 hB4.size hbw6
       have hown : Own w6 w.heap.size 5 .u8 (.slice (some ⟨g, 0, none⟩) X.length X.length) X := Own.ofBlk (hbx.belowAll hB46) (by have := hB12.size; omega) (by rw [HXL.out]; unfold maxLen; omega)
       rw [HXL.out] at hown)
    | (at_builtin; refine append_list rfl (.tmp 20) (.tmp 21) 25 rfl w.heap.size 5 .u8 1 undBytes infoU8 _ X rfl hown (some ⟨g8, 0, none⟩) 16 16 (tagOf key nonce ad X) rfl (tagOf_length _ _ _ _).symm (by intro h; cases h) (Rd.ofBlk hb8') (by rw [HXL.out, tagOf_length]; omega) (by rw [HXL.out, tagOf_length]; omega) (by have := hB13.size; have := hB46.size; omega) ?_; intro v1 w7 ho7 hg7)
    | fail)
  go_ret
  refine ⟨v1, by simp, ?_, ?_⟩
  · rw [sealText, ← HX.out]; exact ho7
  · exact hown.grown_below (below_then hB13 hB13.size hB46) hg7 (by have := hB13.size; have := hB46.size; omega) (Nat.le_refl _)
end Go.Proofs.YtpmmmbilfblcpaaDoor
