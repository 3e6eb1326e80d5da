/- The law BlobOwn. -/
import Derived.Test.YtinpilfnnmkpoaaDoorBlobS
import Derived.Test.YtinpilfnnmkpoaaDoorSame
namespace Go.Proofs.YtinpilfnnmkpoaaDoor
open Go.RowKit Go.Cour
/-- A blob of so many bytes, with these. -/
def itm (id : List Int) (n : Int) (b : List Int) (d : Bool) : Item := ⟨id, n, b, d, 0⟩
section
variable {id b bs : List Int} {n off : Int} {d : Bool}
theorem posI : posOf id [itm id n b d] = 0 := by simp [posOf, itm, isId, List.findIdx_cons]
theorem getI : [itm id n b d][posOf id [itm id n b d]]? = some (itm id n b d) := by rw [posI]; rfl
theorem touchI : touch id [itm id n b d] = [itm id n b d] := by unfold touch; rw [getI]; rw [posI]; rfl
theorem goodI {q l : Int} (hn : 1 ≤ n ∧ n ≤ 30000) (hb : (b.length : Int) ≤ n) (hq : 0 ≤ q ∧ q < 4611686018427387904) : Good ⟨q, l, [itm id n b d]⟩ :=
  ⟨by simp, fun x hx => by simp at hx; subst hx; exact hn, fun x hx => by simp at hx; subst hx; exact hb, hq⟩
theorem openI {q l : Int} (hn : 1 ≤ n ∧ n ≤ 30000) (hq : n ≤ q) : openE ⟨q, l, []⟩ id n = none ∧ openS ⟨q, l, []⟩ id n = ⟨q, l, [itm id n [] false]⟩ := by
  unfold openE openS
  simp only [posOf, List.findIdx_nil, List.length_nil, used, List.map_nil, List.sum_nil]
  rw [if_neg (by omega), if_neg (by omega), if_neg (by omega), if_neg (by omega), if_neg (by omega), if_neg (by omega), if_neg (by omega), if_neg (by omega)]
  exact ⟨rfl, rfl⟩
theorem putI (hoff : 0 ≤ off ∧ off ≤ b.length) (hl : (bs.length : Int) ≤ n - off) : putOf id off bs [itm id n b false] = (((putB b off.toNat bs).length : Int), none) ∧ putL id off bs [itm id n b false] = [itm id n (putB b off.toNat bs) false] := by
  refine ⟨putOf_ok getI (by simp [itm]) (by simp [itm]; omega), ?_⟩
  rw [putL_ok getI (by simp [itm]) (by simp [itm]; omega), posI]; rfl
theorem commitI (h : shaOf b = id) (hl : n ≤ b.length) : commitOf id [itm id n b false] = none ∧ commitL id [itm id n b false] = [itm id n b true] := by
  have h1 : commitOf id [itm id n b false] = none := by
    unfold commitOf; rw [getI]
    show (if (itm id n b false).done = true then none else if ((itm id n b false).b.length : Int) < (itm id n b false).n then some 16 else if shaOf (itm id n b false).b = id then none else some 15) = none
    rw [if_neg (by simp [itm]), if_neg (by simp [itm]; omega), if_pos (show shaOf (itm id n b false).b = id from h)]
  exact ⟨h1, by rw [commitL_ok getI h1, posI]; rfl⟩
theorem gotI (hr : 0 ≤ n ∧ n ≤ 200 ∧ 0 ≤ off ∧ off + n ≤ b.length) {m : Int} : getOf id off n [itm id m b true] = ((b.drop off.toNat).take n.toNat, none) := by
  unfold getOf; rw [getI]
  show (if (itm id m b true).done = false then ([], some 16) else if n < 0 ∨ 200 < n ∨ off < 0 ∨ ((itm id m b true).b.length : Int) < off ∨ ((itm id m b true).b.length : Int) - off < n then ([], some 1) else (((itm id m b true).b.drop off.toNat).take n.toNat, none)) = _
  rw [if_neg (by simp [itm]), if_neg (by simp [itm]; omega)]
  rfl
end
theorem zeroHashT : Tryd.prog.built 30 [] = some (ints .u8 (List.replicate 32 0)).toArray := by kernel_rfl
theorem putB_nil (xs : List Int) : putB [] 0 xs = xs := by simp [putB]
set_option maxHeartbeats 4000000 in
set_option maxRecDepth 100000 in
theorem blobOwn_calls (a at_ : Int) {w : World} {P : Nat → Addr} (hE : Errs w P) :
    Calls Tryd.prog 6 #[.int .i64 a, .int .i64 at_] w fun e w' => e = .returned (.bool true) ∧ Below w.heap.size w w' := by
  have hS := HS.start NoF w
  have hneq := nil_neqK
  have heql := nil_eqlK
  obtain ⟨a0, ha0, ha6⟩ : ∃ a0 : Nat, Hd (a % 6 = (a0 : Int)) ∧ a0 < 6 := ⟨(a % 6).toNat, hid (by omega), by omega⟩
  have HL := hid (contOf_length a0)
  have H8 := hid (contOf_B8 a0)
  obtain ⟨xs, hxs⟩ : ∃ xs, Hd (contOf a0 = xs) := ⟨_, hid rfl⟩
  obtain ⟨D, hD⟩ : ∃ D, Hd (shaOf xs = D) := ⟨_, hid rfl⟩
  obtain ⟨s, hs⟩ : ∃ s : Nat, Hd (20 + 40 * a0 = s) := ⟨_, hid rfl⟩
  have hsb : 20 ≤ s ∧ s ≤ 220 := by have := hs.out; omega
  rw [hxs.out, hs.out] at HL
  rw [hxs.out] at H8
  have HDL : Hd (D.length = 32) := hid (hD.out ▸ shaOf_length xs)
  have hm3 : max (3 : Int) 1 = 3 := by omega
  have hop := openI (id := D) (n := (s : Int)) (q := 1000) (l := 3) (by omega) (by omega)
  have hg0 := Good.nil 1000 3 (by omega)
  have hg1 : Good ⟨1000, 3, [itm D s [] false]⟩ := goodI (by omega) (by simp) (by omega)
  have hpu := putI (id := D) (n := (s : Int)) (off := 0) (b := []) (bs := xs) (by simp) (by have := HL.out; omega)
  rw [show (0 : Int).toNat = 0 from rfl, putB_nil, HL.out] at hpu
  have hg2 : Good ⟨1000, 3, [itm D s xs false]⟩ := goodI (by omega) (by have := HL.out; omega) (by omega)
  have hco := commitI (id := D) (n := (s : Int)) (b := xs) hD.out (by have := HL.out; omega)
  have hg3 : Good ⟨1000, 3, [itm D s xs true]⟩ := goodI (by omega) (by have := HL.out; omega) (by omega)
  obtain ⟨q, hq⟩ : ∃ q : Nat, min s 200 = q := ⟨_, rfl⟩
  have hq1 : q ≤ s := by omega
  have hq2 : q ≤ 200 := by omega
  have hq20 : 20 ≤ q := by omega
  have hqm : (if (200 : Int) < (s : Int) then (200 : Int) else (s : Int)) = (q : Int) := by split <;> omega
  have hge := gotI (id := D) (m := (s : Int)) (off := 0) (n := (q : Int)) (b := xs) (by have := HL.out; omega)
  rw [show (0 : Int).toNat = 0 from rfl, List.drop_zero, Int.toNat_natCast] at hge
  obtain ⟨ys, hys⟩ : ∃ ys, Hd (xs.take q = ys) := ⟨_, hid rfl⟩
  rw [hys.out] at hge
  have HYL : Hd (ys.length = q) := hid (by rw [← hys.out, List.length_take, HL.out]; omega)
  obtain ⟨k0, hk0, hk0s⟩ : ∃ k0 : Nat, Hd (at_ % (s : Int) = (k0 : Int)) ∧ k0 < s := ⟨(at_ % (s : Int)).toNat, hid (by have := Int.emod_nonneg at_ (show (s : Int) ≠ 0 by omega); omega), by have := Int.emod_lt_of_pos at_ (show (0 : Int) < s by omega); have := Int.emod_nonneg at_ (show (s : Int) ≠ 0 by omega); omega⟩
  obtain ⟨x0, hx0⟩ : ∃ x, Hd (rd xs k0 = x) := ⟨_, hid rfl⟩
  obtain ⟨y0, hy0⟩ : ∃ x, Hd (rd ys 0 = x) := ⟨_, hid rfl⟩
  have hx0b : 0 ≤ x0 ∧ x0 < 256 := hx0.out ▸ rd_all (P := B8) H8.out zero_B8 k0
  have hy0b : 0 ≤ y0 ∧ y0 < 256 := hy0.out ▸ rd_all (P := B8) (hys.out ▸ fun x hx => H8.out x (List.mem_of_mem_take hx)) zero_B8 0
  have HEQD := hid fun w => run_equalIn_ints (P := Tryd.prog) w 9998 30 5 32 .u8 arrHash undU8B sizeU8B D D HDL.out HDL.out
  have hpos : Hd (posOf D [itm D s xs false] < [itm D s xs false].length) := hid (by rw [posI]; simp)
  have hB8 : Hd (∀ x ∈ [itm D s xs false], ∀ b ∈ x.b, B8 b) := hid (fun x hx => by simp at hx; subst hx; exact H8.out)
  have HOP := hid hop
  have HPU := hid hpu
  have HCO := hid hco
  have HGE := hid hge
  clear hop hpu hco hge hq
  go_enter Tryd.func6, Tryd.ntmps6
  go_wp2_with (first
    | (go_at_call 8; refine (first20_calls hE).mono ?_; rintro e w1 ⟨rfl, hB⟩; replace hS := hS.below hB; clear hB)
    | (go_at_call 9; refine (number_calls _ _ _ (by omega) (by omega)).mono ?_; rintro e wz ⟨rfl, rfl⟩; rw [ha0.out])
    | (go_at_call 18; refine (content_calls a0 (by omega) _).mono ?_; rintro e w2 ⟨A, m, c, rfl, hm, hc, hA, hn⟩
       obtain rfl : m = s := by rw [← hm, hxs.out, HL.out]
       rw [hxs.out] at hn ⊢
       rw [hD.out]
       replace hS : HS NoF w w2 [.os 5 (.slice A m c) (ints .u8 xs)] := HS.call (A := []) hS hn (fun k hk => hk.elim)
       clear hn hm)
    | (refine alloc_blk rfl 30 rfl _ rfl (ints .u8 (List.replicate 32 0)) zeroHashS ?_; intro g7 w3 hga hba hBa hsa; replace hS := hS.pushBlk hBa hba hga; clear hga hba hBa hsa)
    | (refine hs_storeW hS 0 rfl rfl 30 _ _ rfl rfl (ints .u8 D) rfl (ints_one' _ _) _ infoHashS (by simp [HDL.out]) (by simp) _ rfl ?_; clear hS; intro w4 hS)
    | fail)
  refine (newH 1000 3 hS).mono ?_
  rintro e w5 ⟨gs, F5, rfl, hS5⟩
  rw [hm3] at hS5
  clear hS
  have hS : HS NoF w w5 [entSto F5 gs ⟨1000, 3, []⟩, .blk g7 30 (ints .u8 D), .os 5 (.slice A m c) (ints .u8 xs)] := hS5
  clear hS5
  go_wp2_with (first
    | (refine hs_loadW hS 1 rfl rfl 30 _ rfl rfl 32 infoHashS (by simp [HDL.out]) _ arrHashS rfl _ rfl ?_)
    | fail)
  refine (openH D (m : Int) none _ hE hS hg0 HDL.out HOP.out.1 HOP.out.2).mono ?_
  rintro e w6 ⟨rfl, F6, hS6⟩
  replace hS := hS6
  clear hS6
  simp only [erV]
  go_wp2_with (first
    | (refine hs_loadW hS 1 rfl rfl 30 _ rfl rfl 32 infoHashS (by simp [HDL.out]) _ arrHashS rfl _ rfl ?_)
    | (go_at_call 23; refine (bytes_calls xs A c m _ HL.out.symm ((hS.os 2 rfl).rd rfl) (by omega)).mono ?_; rintro e w7 ⟨v7, rfl, ho, hB⟩
       obtain ⟨Ab, cb, rfl, hcb, hAb⟩ := ho.partsL HL.out
       replace hS := hS.pushOwn hB ho
       obtain ⟨gb, ob, rfl⟩ := ((hS.os 0 rfl).rd rfl).at (by rw [HL.out]; omega)
       replace hS : HS NoF w w7 [entSto F6 gs ⟨1000, 3, [itm D (m : Int) [] false]⟩, .blk g7 30 (ints .u8 D), .os 5 (.slice A m c) (ints .u8 xs), .os 5 (.slice (some ⟨gb, ob, none⟩) m cb) (ints .u8 xs)] := hS.perm (List.perm_append_comm (l₁ := [Ent.os 5 (.slice (some ⟨gb, ob, none⟩) m cb) (ints .u8 xs)]) (l₂ := [entSto F6 gs ⟨1000, 3, [itm D (m : Int) [] false]⟩, Ent.blk g7 30 (ints .u8 D), Ent.os 5 (.slice A m c) (ints .u8 xs)]))
       clear ho hB)
    | fail)
  refine (putH D 0 xs (some ⟨gb, ob, none⟩) m cb ((m : Int), none) _ hE hS hg1 HDL.out (by omega) HL.out (by omega) hcb hAb ((hS.os 3 rfl).rd rfl) (fun a ha hne hF => hS.mem.apart (i := 0) (j := 3) rfl rfl (by decide) a.block hF (by injection ha with ha; subst ha; rfl)) HPU.out.1 HPU.out.2).mono ?_
  rintro e w8 ⟨rfl, F8, hS8⟩
  replace hS : HS NoF w w8 [entSto F8 gs ⟨1000, 3, [itm D (m : Int) xs false]⟩, .blk g7 30 (ints .u8 D), .os 5 (.slice A m c) (ints .u8 xs), .os 5 (.slice (some ⟨gb, ob, none⟩) m cb) (ints .u8 xs)] := hS8
  clear hS8
  simp only [erV]
  have cbk : w8.cell? ⟨gb, ob + k0, none⟩ = some (.int .u8 x0) := by rw [← hx0.out]; exact ((hS.os 3 rfl).rd rfl).cellAt k0 (by rw [HL.out]; exact hk0s)
  obtain ⟨zs, hzs⟩ : ∃ zs, Hd (xs.set k0 ((x0 + 1) % 256) = zs) := ⟨_, hid rfl⟩
  go_wp2_with (first
    | (refine hs_loadW hS 1 rfl rfl 30 _ rfl rfl 32 infoHashS (by simp [HDL.out]) _ arrHashS rfl _ rfl ?_)
    | (go_at_call 9; refine (number_calls _ _ _ (by omega) (by omega)).mono ?_; rintro e wz ⟨rfl, rfl⟩; rw [hk0.out])
    | (refine hs_storeS hS 3 rfl rfl 5 _ _ rfl k0 rfl (.int .u8 ((x0 + 1) % 256)) rfl rfl sizeU8S (by simp [HL.out]; omega) _ rfl ?_
       clear hS cbk; intro w9 hS; rw [ints_set, hzs.out] at hS)
    | fail)
  replace hS : HS NoF w w9 [entSto F8 gs ⟨1000, 3, [itm D (m : Int) xs false]⟩, .blk g7 30 (ints .u8 D), .os 5 (.slice A m c) (ints .u8 xs), .os 5 (.slice (some ⟨gb, ob, none⟩) m cb) (ints .u8 zs)] := hS
  refine (commitH D none _ hE hS hg2 HDL.out hpos.out hB8.out HCO.out.1 HCO.out.2).mono ?_
  rintro e w10 ⟨rfl, F10, hS10⟩
  replace hS : HS NoF w w10 [entSto F10 gs ⟨1000, 3, [itm D (m : Int) xs true]⟩, .blk g7 30 (ints .u8 D), .os 5 (.slice A m c) (ints .u8 xs), .os 5 (.slice (some ⟨gb, ob, none⟩) m cb) (ints .u8 zs)] := hS10
  clear hS10
  simp only [erV]
  go_wp2_with (first
    | (refine hs_loadW hS 1 rfl rfl 30 _ rfl rfl 32 infoHashS (by simp [HDL.out]) _ arrHashS rfl _ rfl ?_)
    | fail)
  have hqc : q ≤ c := by omega
  have hqcn : (q : Int) ≤ c := by omega
  refine (getH D 0 (q : Int) (ys, none) _ hE hS hg3 HDL.out (by omega) (by omega) HGE.out touchI).mono ?_
  rintro e w11 ⟨Ac, mc, cc, rfl, hmc, hmcc, hAc, F11, hS11⟩
  have hmc' : ys.length = mc := hmc
  rw [HYL.out] at hmc'
  subst hmc'
  obtain ⟨gc, oc, rfl⟩ := ((hS11.os 1 rfl).rd rfl).at (by rw [HYL.out]; omega)
  clear hS hmc
  have hS : HS NoF w w11 [entSto F11 gs ⟨1000, 3, [itm D (m : Int) xs true]⟩, .blk g7 30 (ints .u8 D), .os 5 (.slice A m c) (ints .u8 xs), .os 5 (.slice (some ⟨gb, ob, none⟩) m cb) (ints .u8 zs), .os 5 (.slice (some ⟨gc, oc, none⟩) q cc) (ints .u8 ys)] := hS11.perm (List.Perm.cons _ (List.perm_append_comm (l₁ := [Ent.os 5 (.slice (some ⟨gc, oc, none⟩) q cc) (ints .u8 ys)]) (l₂ := [Ent.blk g7 30 (ints .u8 D), Ent.os 5 (.slice A m c) (ints .u8 xs), Ent.os 5 (.slice (some ⟨gb, ob, none⟩) m cb) (ints .u8 zs)])))
  clear hS11
  simp only [erV]
  go_wp2_with (first
    | (refine hs_loadW hS 1 rfl rfl 30 _ rfl rfl 32 infoHashS (by simp [HDL.out]) _ arrHashS rfl _ rfl ?_)
    | fail)
  have hry := ((hS.os 2 rfl).rd rfl).take q
  rw [hys.out] at hry
  refine (same_calls ys ys (some ⟨gc, oc, none⟩) A cc c q q _ HYL.out.symm HYL.out.symm ((hS.os 4 rfl).rd rfl) hry (by rw [HYL.out]; omega) (by rw [HYL.out]; omega)).mono ?_
  rintro e w12 ⟨rfl, n12, hw12⟩
  replace hS := hS.drewN n12
  rw [← hw12] at hS
  clear hw12 hry
  have hdy : decide (ys = ys) = true := by simp
  rw [hdy]
  have cc0 : w12.cell? ⟨gc, oc + 0, none⟩ = some (.int .u8 y0) := by rw [← hy0.out]; exact ((hS.os 4 rfl).rd rfl).cellAt 0 (by rw [HYL.out]; omega)
  rw [Nat.add_zero] at cc0
  obtain ⟨us, hus⟩ : ∃ us, Hd (ys.set 0 ((y0 + 1) % 256) = us) := ⟨_, hid rfl⟩
  go_wp2_with (first
    | (refine hs_loadW hS 1 rfl rfl 30 _ rfl rfl 32 infoHashS (by simp [HDL.out]) _ arrHashS rfl _ rfl ?_)
    | (refine hs_storeS hS 4 rfl rfl 5 _ _ rfl 0 rfl (.int .u8 ((y0 + 1) % 256)) rfl rfl sizeU8S (by simp [HYL.out]; omega) _ rfl ?_
       clear hS cc0; intro w13 hS; rw [ints_set, hus.out] at hS)
    | fail)
  replace hS : HS NoF w w13 [entSto F11 gs ⟨1000, 3, [itm D (m : Int) xs true]⟩, .blk g7 30 (ints .u8 D), .os 5 (.slice A m c) (ints .u8 xs), .os 5 (.slice (some ⟨gb, ob, none⟩) m cb) (ints .u8 zs), .os 5 (.slice (some ⟨gc, oc, none⟩) q cc) (ints .u8 us)] := hS
  refine (getH D 0 (q : Int) (ys, none) _ hE hS hg3 HDL.out (by omega) (by omega) HGE.out touchI).mono ?_
  rintro e w14 ⟨Ad, md, cd, rfl, hmd, hmdd, hAd, F14, hS14⟩
  have hmd' : ys.length = md := hmd
  rw [HYL.out] at hmd'
  subst hmd'
  clear hS hmd
  have hS : HS NoF w w14 [entSto F14 gs ⟨1000, 3, [itm D (m : Int) xs true]⟩, .blk g7 30 (ints .u8 D), .os 5 (.slice A m c) (ints .u8 xs), .os 5 (.slice (some ⟨gb, ob, none⟩) m cb) (ints .u8 zs), .os 5 (.slice (some ⟨gc, oc, none⟩) q cc) (ints .u8 us), .os 5 (.slice Ad q cd) (ints .u8 ys)] := hS14.perm (List.Perm.cons _ (List.perm_append_comm (l₁ := [Ent.os 5 (.slice Ad q cd) (ints .u8 ys)]) (l₂ := [Ent.blk g7 30 (ints .u8 D), Ent.os 5 (.slice A m c) (ints .u8 xs), Ent.os 5 (.slice (some ⟨gb, ob, none⟩) m cb) (ints .u8 zs), Ent.os 5 (.slice (some ⟨gc, oc, none⟩) q cc) (ints .u8 us)])))
  clear hS14
  simp only [erV]
  go_wp2_with fail
  refine (allH1 D hS rfl (by simp)).mono ?_
  rintro e w15 ⟨gl, cl, cs, rfl, hcl, hcs, _, hS15⟩
  clear hS
  have hS : HS NoF w w15 [entSto F14 gs ⟨1000, 3, [itm D (m : Int) xs true]⟩, .blk g7 30 (ints .u8 D), .os 5 (.slice A m c) (ints .u8 xs), .os 5 (.slice (some ⟨gb, ob, none⟩) m cb) (ints .u8 zs), .os 5 (.slice (some ⟨gc, oc, none⟩) q cc) (ints .u8 us), .os 5 (.slice Ad q cd) (ints .u8 ys), .blk gl 30 cs] := hS15.perm (List.Perm.cons _ (List.perm_append_comm (l₁ := [Ent.blk gl 30 cs]) (l₂ := [Ent.blk g7 30 (ints .u8 D), Ent.os 5 (.slice A m c) (ints .u8 xs), Ent.os 5 (.slice (some ⟨gb, ob, none⟩) m cb) (ints .u8 zs), Ent.os 5 (.slice (some ⟨gc, oc, none⟩) q cc) (ints .u8 us), Ent.os 5 (.slice Ad q cd) (ints .u8 ys)])))
  clear hS15
  go_wp2_with (first
    | (refine build_to rfl 30 _ rfl (ints .u8 (List.replicate 32 0)).toArray (by rw [Array.toList_map]; exact zeroHashT) ?_)
    | (refine hs_storeN hS 6 rfl rfl 30 _ _ rfl 0 rfl (ints .u8 (List.replicate 32 0)) rfl (ints_one' _ _) 32 infoHashS (by simp) (by omega) _ rfl ?_; clear hS; intro w16 hS; replace hS := hS.erase 6)
    | fail)
  replace hS : HS NoF w w16 [entSto F14 gs ⟨1000, 3, [itm D (m : Int) xs true]⟩, .blk g7 30 (ints .u8 D), .os 5 (.slice A m c) (ints .u8 xs), .os 5 (.slice (some ⟨gb, ob, none⟩) m cb) (ints .u8 zs), .os 5 (.slice (some ⟨gc, oc, none⟩) q cc) (ints .u8 us), .os 5 (.slice Ad q cd) (ints .u8 ys)] := hS
  refine (allH1 D hS rfl (by simp)).mono ?_
  rintro e w17 ⟨gm, cm, cs2, rfl, hcm, hcs2, hcc2, hS17⟩
  clear hS
  have hS : HS NoF w w17 [entSto F14 gs ⟨1000, 3, [itm D (m : Int) xs true]⟩, .blk gm 30 cs2, .blk g7 30 (ints .u8 D), .os 5 (.slice A m c) (ints .u8 xs), .os 5 (.slice (some ⟨gb, ob, none⟩) m cb) (ints .u8 zs), .os 5 (.slice (some ⟨gc, oc, none⟩) q cc) (ints .u8 us), .os 5 (.slice Ad q cd) (ints .u8 ys)] := hS17
  clear hS17
  have HCC2 := hid hcc2
  have heqd := HEQD.out
  have hdd : decide (D = D) = true := by simp
  clear hcc2
  try go_wp2_with fail
  refine wp_region_S (F := NoF) (w0 := w) (L0 := [entSto F14 gs ⟨1000, 3, [itm D (m : Int) xs true]⟩, .blk gm 30 cs2, .blk g7 30 (ints .u8 D), .os 5 (.slice A m c) (ints .u8 xs), .os 5 (.slice (some ⟨gb, ob, none⟩) m cb) (ints .u8 zs), .os 5 (.slice (some ⟨gc, oc, none⟩) q cc) (ints .u8 us), .os 5 (.slice Ad q cd) (ints .u8 ys)]) [10] []
    (fun iK u E => match iK with
      | 10 => u = .bool true ∧ E = []
      | _ => False)
    ([]) (by kernel_rfl) (by kernel_rfl) hS ?_
  show wpS _ _ _ _ _ _ _ _ _ _ [0, 1, 2, 3, 4, 5, 6, 7, 8, 9, 10, 11, 12, 13, 14, 15, 16, 17, 18, 19, 20, 21, 22, 23, 24] _
  apply wpS_read (i := 0) rfl rfl ⟨_, hS⟩ rfl -- Op.move t5
  · intro w' hT'
    simp only [List.getElem_toArray, List.getElem_cons_zero, List.getElem_cons_succ]
    go_wp2_with fail
    first | exact ⟨rfl, rfl, rfl⟩ | rfl
  apply wpS_read (i := 1) rfl rfl ⟨_, hS⟩ rfl -- Op.move t110
  · intro w' hT'
    simp only [List.getElem_toArray, List.getElem_cons_zero, List.getElem_cons_succ]
    go_wp2_with fail
    first | exact ⟨rfl, rfl, rfl⟩ | rfl
  apply wpS_read (i := 2) rfl rfl ⟨_, hS⟩ rfl -- Op.move t17
  · intro w' hT'
    simp only [List.getElem_toArray, List.getElem_cons_zero, List.getElem_cons_succ]
    go_wp2_with fail
    first | exact ⟨rfl, rfl, rfl⟩ | rfl
  apply wpS_read (i := 3) rfl rfl ⟨_, hS⟩ rfl -- Op.binOp BinOp.eql 27 t112 (const Value.nilIface) 27
  · intro w' hT'
    simp only [List.getElem_toArray, List.getElem_cons_zero, List.getElem_cons_succ]
    go_wp2_with (first
      | (refine hs_loadN hT' 1 rfl rfl 30 _ rfl 0 rfl (ints .u8 D) (fun j v hv => by rw [Nat.zero_add]; exact HCC2.out j v hv) 32 infoHashS (by simp [HDL.out]) _ arrHashS rfl _ rfl ?_)
      | (refine hs_loadW hT' 2 rfl rfl 30 _ rfl rfl 32 infoHashS (by simp [HDL.out]) _ arrHashS rfl _ rfl ?_)
      | fail)
    first | exact ⟨rfl, rfl, rfl⟩ | rfl
  apply wpS_read (i := 4) rfl rfl ⟨_, hS⟩ rfl -- Op.pick t111 t113 (const (Value.bool false))
  · intro w' hT'
    simp only [List.getElem_toArray, List.getElem_cons_zero, List.getElem_cons_succ]
    go_wp2_with fail
    first | exact ⟨rfl, rfl, rfl⟩ | rfl
  apply wpS_read (i := 5) rfl rfl ⟨_, hS⟩ rfl -- Op.move t114
  · intro w' hT'
    simp only [List.getElem_toArray, List.getElem_cons_zero, List.getElem_cons_succ]
    go_wp2_with fail
    first | exact ⟨rfl, rfl, rfl⟩ | rfl
  apply wpS_read (i := 6) rfl rfl ⟨_, hS⟩ rfl -- Op.move t16
  · intro w' hT'
    simp only [List.getElem_toArray, List.getElem_cons_zero, List.getElem_cons_succ]
    go_wp2_with fail
    first | exact ⟨rfl, rfl, rfl⟩ | rfl
  apply wpS_read (i := 7) rfl rfl ⟨_, hS⟩ rfl -- Op.move t6
  · intro w' hT'
    simp only [List.getElem_toArray, List.getElem_cons_zero, List.getElem_cons_succ]
    go_wp2_with fail
    first | exact ⟨rfl, rfl, rfl⟩ | rfl
  apply wpS_read (i := 8) rfl rfl ⟨_, hS⟩ rfl -- Op.move t13
  · intro w' hT'
    simp only [List.getElem_toArray, List.getElem_cons_zero, List.getElem_cons_succ]
    go_wp2_with fail
    first | exact ⟨rfl, rfl, rfl⟩ | rfl
  apply wpS_read (i := 9) rfl rfl ⟨_, hS⟩ rfl -- Op.slice 41 t117 none (some t118) none
  · intro w' hT'
    simp only [List.getElem_toArray, List.getElem_cons_zero, List.getElem_cons_succ]
    go_wp2_with (first
      | (refine hs_loadN hT' 1 rfl rfl 30 _ rfl 0 rfl (ints .u8 D) (fun j v hv => by rw [Nat.zero_add]; exact HCC2.out j v hv) 32 infoHashS (by simp [HDL.out]) _ arrHashS rfl _ rfl ?_)
      | (refine hs_loadW hT' 2 rfl rfl 30 _ rfl rfl 32 infoHashS (by simp [HDL.out]) _ arrHashS rfl _ rfl ?_)
      | fail)
    first | exact ⟨rfl, rfl, rfl⟩ | rfl
  refine wpS_soft (i := 10) rfl rfl rfl (Nat.le_of_ble_eq_true rfl) ?_ ?_ -- Op.call { value (Operand.func 22), args := #[t116, t119], argTypes :
  · intro w' hT
    simp only [List.getElem_toArray, List.getElem_cons_zero, List.getElem_cons_succ]
    have hdy : decide (ys = ys) = true := by simp
    have hry := ((hT.os 3 rfl).rd rfl).take q
    rw [hys.out] at hry
    go_wp2_with (first
      | (go_at_call 22; refine (same_calls ys ys Ad A cd c q q _ HYL.out.symm HYL.out.symm ((hT.os 6 rfl).rd rfl) hry (by rw [HYL.out]; omega) (by rw [HYL.out]; omega)).mono ?_; rintro e wq ⟨rfl, nq, hwq⟩; rw [hdy])
      | fail)
    exact SoftP.mk' (.bool true) ([]) rfl (⟨rfl, rfl⟩) (hT.drewN nq) (below_drewN (Below.refl _ _) nq) (fun _ h => by cases h)
  intro u10 E10 hK10
  obtain ⟨rfl, rfl⟩ := hK10
  simp only [Act.put, List.setIfInBounds_toArray, List.set_cons_zero, List.set_cons_succ]
  apply wpS_read (i := 11) rfl rfl ⟨_, hS⟩ rfl -- Op.pick t115 t120 (const (Value.bool false))
  · intro w' hT'
    simp only [List.getElem_toArray, List.getElem_cons_zero, List.getElem_cons_succ]
    go_wp2_with fail
    first | exact ⟨rfl, rfl, rfl⟩ | rfl
  apply wpS_read (i := 12) rfl rfl ⟨_, hS⟩ rfl -- Op.move t121
  · intro w' hT'
    simp only [List.getElem_toArray, List.getElem_cons_zero, List.getElem_cons_succ]
    go_wp2_with fail
    first | exact ⟨rfl, rfl, rfl⟩ | rfl
  apply wpS_read (i := 13) rfl rfl ⟨_, hS⟩ rfl -- Op.move t19
  · intro w' hT'
    simp only [List.getElem_toArray, List.getElem_cons_zero, List.getElem_cons_succ]
    go_wp2_with fail
    first | exact ⟨rfl, rfl, rfl⟩ | rfl
  apply wpS_read (i := 14) rfl rfl ⟨_, hS⟩ rfl -- Op.call { builtin len, args := #[t123], argTypes := #[37] }
  · intro w' hT'
    simp only [List.getElem_toArray, List.getElem_cons_zero, List.getElem_cons_succ]
    go_wp2_with fail
    first | exact ⟨rfl, rfl, rfl⟩ | rfl
  apply wpS_read (i := 15) rfl rfl ⟨_, hS⟩ rfl -- Op.binOp BinOp.eql 3 t124 (const (1:i64)) 3
  · intro w' hT'
    simp only [List.getElem_toArray, List.getElem_cons_zero, List.getElem_cons_succ]
    go_wp2_with (first
      | (refine hs_loadN hT' 1 rfl rfl 30 _ rfl 0 rfl (ints .u8 D) (fun j v hv => by rw [Nat.zero_add]; exact HCC2.out j v hv) 32 infoHashS (by simp [HDL.out]) _ arrHashS rfl _ rfl ?_)
      | (refine hs_loadW hT' 2 rfl rfl 30 _ rfl rfl 32 infoHashS (by simp [HDL.out]) _ arrHashS rfl _ rfl ?_)
      | fail)
    first | exact ⟨rfl, rfl, rfl⟩ | rfl
  apply wpS_read (i := 16) rfl rfl ⟨_, hS⟩ rfl -- Op.pick t122 t125 (const (Value.bool false))
  · intro w' hT'
    simp only [List.getElem_toArray, List.getElem_cons_zero, List.getElem_cons_succ]
    go_wp2_with fail
    first | exact ⟨rfl, rfl, rfl⟩ | rfl
  apply wpS_read (i := 17) rfl rfl ⟨_, hS⟩ rfl -- Op.move t126
  · intro w' hT'
    simp only [List.getElem_toArray, List.getElem_cons_zero, List.getElem_cons_succ]
    go_wp2_with fail
    first | exact ⟨rfl, rfl, rfl⟩ | rfl
  apply wpS_read (i := 18) rfl rfl ⟨_, hS⟩ rfl -- Op.move t19
  · intro w' hT'
    simp only [List.getElem_toArray, List.getElem_cons_zero, List.getElem_cons_succ]
    go_wp2_with fail
    first | exact ⟨rfl, rfl, rfl⟩ | rfl
  apply wpS_read (i := 19) rfl rfl ⟨_, hS⟩ rfl -- Op.indexAddr 37 t128 (const (0:i64))
  · intro w' hT'
    simp only [List.getElem_toArray, List.getElem_cons_zero, List.getElem_cons_succ]
    go_wp2_with fail
    first | exact ⟨rfl, rfl, rfl⟩ | rfl
  apply wpS_read (i := 20) rfl rfl ⟨_, hS⟩ rfl -- Op.load 30 t129
  · intro w' hT'
    simp only [List.getElem_toArray, List.getElem_cons_zero, List.getElem_cons_succ]
    go_wp2_with (first
      | (refine hs_loadN hT' 1 rfl rfl 30 _ rfl 0 rfl (ints .u8 D) (fun j v hv => by rw [Nat.zero_add]; exact HCC2.out j v hv) 32 infoHashS (by simp [HDL.out]) _ arrHashS rfl _ rfl ?_)
      | (refine hs_loadW hT' 2 rfl rfl 30 _ rfl rfl 32 infoHashS (by simp [HDL.out]) _ arrHashS rfl _ rfl ?_)
      | fail)
    first | exact ⟨rfl, rfl, rfl⟩ | rfl
  apply wpS_read (i := 21) rfl rfl ⟨_, hS⟩ rfl -- Op.load 30 t7
  · intro w' hT'
    simp only [List.getElem_toArray, List.getElem_cons_zero, List.getElem_cons_succ]
    go_wp2_with (first
      | (refine hs_loadN hT' 1 rfl rfl 30 _ rfl 0 rfl (ints .u8 D) (fun j v hv => by rw [Nat.zero_add]; exact HCC2.out j v hv) 32 infoHashS (by simp [HDL.out]) _ arrHashS rfl _ rfl ?_)
      | (refine hs_loadW hT' 2 rfl rfl 30 _ rfl rfl 32 infoHashS (by simp [HDL.out]) _ arrHashS rfl _ rfl ?_)
      | fail)
    first | exact ⟨rfl, rfl, rfl⟩ | rfl
  apply wpS_read (i := 22) rfl rfl ⟨_, hS⟩ rfl -- Op.binOp BinOp.eql 30 t130 t131 30
  · intro w' hT'
    simp only [List.getElem_toArray, List.getElem_cons_zero, List.getElem_cons_succ]
    go_wp2_with (first
      | (refine hs_loadN hT' 1 rfl rfl 30 _ rfl 0 rfl (ints .u8 D) (fun j v hv => by rw [Nat.zero_add]; exact HCC2.out j v hv) 32 infoHashS (by simp [HDL.out]) _ arrHashS rfl _ rfl ?_)
      | (refine hs_loadW hT' 2 rfl rfl 30 _ rfl rfl 32 infoHashS (by simp [HDL.out]) _ arrHashS rfl _ rfl ?_)
      | fail)
    first | exact ⟨rfl, rfl, rfl⟩ | rfl
  apply wpS_read (i := 23) rfl rfl ⟨_, hS⟩ rfl -- Op.pick t127 t132 (const (Value.bool false))
  · intro w' hT'
    simp only [List.getElem_toArray, List.getElem_cons_zero, List.getElem_cons_succ]
    go_wp2_with fail
    first | exact ⟨rfl, rfl, rfl⟩ | rfl
  apply wpS_read (i := 24) rfl rfl ⟨_, hS⟩ rfl -- Op.assign t133
  · intro w' hT'
    simp only [List.getElem_toArray, List.getElem_cons_zero, List.getElem_cons_succ]
    go_wp2_with fail
    first | exact ⟨rfl, rfl, rfl⟩ | rfl
  refine wpS_end ?_
  intro wz hT
  try dsimp only

  go_wp2_with fail
  go_ret
  exact ⟨rfl, hT.bel⟩
end Go.Proofs.YtinpilfnnmkpoaaDoor
