import Derived.Shelf.Lays
import Derived.Shelf.Small.Bits
import Derived.Test.YtlikinglgegclaaGreatDoorProg
import Derived.Test.YtlikinglgegclaaGreatDoorMgDS0
import Derived.Test.YtlikinglgegclaaGreatDoorMgDS1
import Derived.Test.YtlikinglgegclaaGreatDoorMgDS2
import Derived.Test.YtlikinglgegclaaGreatDoorMgDS3
import Derived.Test.YtlikinglgegclaaGreatDoorMgDS4
import Derived.Test.YtlikinglgegclaaGreatDoorMgDS5
import Derived.Test.YtlikinglgegclaaGreatDoorMgDS6
import Derived.Test.YtlikinglgegclaaGreatDoorMgDS7
import Derived.Test.YtlikinglgegclaaGreatDoorMgDS8
import Derived.Test.YtlikinglgegclaaGreatDoorMgDS9
import Derived.Test.YtlikinglgegclaaGreatDoorMgDS10
import Derived.Test.YtlikinglgegclaaGreatDoorMgDS11
import Derived.Test.YtlikinglgegclaaGreatDoorMgDS12
import Derived.Test.YtlikinglgegclaaGreatDoorMgDS13
import Derived.Test.YtlikinglgegclaaGreatDoorMgDS14
import Derived.Test.YtlikinglgegclaaGreatDoorMgDS15
set_option linter.unusedSimpArgs false
set_option linter.unusedVariables false
open List (getElem_toArray getElem_cons_zero getElem_cons_succ)
/- math/bits.Len, by the library's contract (the table of numbers written out). -/
namespace Go.Proofs.YtlikinglgegclaaGreatDoor
open Go.Shelf
def lenRen : Ren where
  f := fun x => match x with
    | 125 => 84
    | 128 => 91
    | 129 => 92
    | n => n
  t := fun x => match x with
    | 46 => 87
    | 3 => 3
    | 51 => 22
    | 53 => 107
    | 4 => 4
    | 5 => 5
    | 9 => 9
    | n => n
  g := fun n => n
theorem lenLays : Lays.n125 Tryz.prog lenRen where
  mixed := by kernel_rfl
  f125 := Eq.trans Tryz.func84 (congrArg some (by kernel_rfl))
  f128 := Eq.trans Tryz.func91 (congrArg some (by kernel_rfl))
  f129 := Eq.trans Tryz.func92 (congrArg some (by kernel_rfl))
  t3 := Tryz.underlying3
  a3 := Tryz.isAgg3
  z3 := Tryz.sizeOf3
  v3 := Tryz.zeroValue3
  t4 := Tryz.underlying4
  a4 := Tryz.isAgg4
  z4 := Tryz.sizeOf4
  v4 := Tryz.zeroValue4
  t5 := Tryz.underlying5
  a5 := Tryz.isAgg5
  z5 := Tryz.sizeOf5
  v5 := Tryz.zeroValue5
  t9 := Tryz.underlying9
  a9 := Tryz.isAgg9
  z9 := Tryz.sizeOf9
  v9 := Tryz.zeroValue9
  t46 := Tryz.underlying87
  a46 := Tryz.isAgg87
  z46 := Tryz.sizeOf87
  v46 := Tryz.zeroValue87
  t51 := Tryz.underlying22
  a51 := Tryz.isAgg22
  z51 := Tryz.sizeOf22
  v51 := Tryz.zeroValue22
  t53 := Tryz.underlying107
  a53 := Tryz.isAgg107
  z53 := Tryz.sizeOf107
  v53 := Tryz.zeroValue107
theorem lenS_calls (x : Int) (w : World) (h0 : 0 ≤ x) (h1 : x ≤ 18446744073709551615) :
    Calls Tryz.prog 84 #[.int .u64 x] w fun e w' => e = .returned (.int .i64 (Lib.bitLen x.toNat)) ∧ w' = w := Any.bits_Len lenLays x w h0 h1
end Go.Proofs.YtlikinglgegclaaGreatDoor
/- The program's tree: Leaf, Node, Split, Root. -/
namespace Go.Proofs.YtlikinglgegclaaGreatDoor
open Go.RowKit Go.Cour
theorem undLB2 : Tryz.prog.underlying 38 = some (.slice 29) := by kernel_rfl
theorem sizeBytes2 : (Tryz.prog.info? 29).map (·.size) = some 1 := by kernel_rfl
theorem zeroBytes2 : (((Tryz.prog.info? 29).bind (·.zero)).map (·.cells.size)) = some 1 := by kernel_rfl
/-- Texts that stand in a literal. -/
theorem rdL_of {w : World} {g : Nat} {vs : List Value} {bss : List (List Int)} (hc : ∀ (i : Nat) (u : Value), vs[i]? = some u → w.cell? ⟨g, i, none⟩ = some u) (hp : ∀ (i : Nat) (bs : List Int), bss[i]? = some bs → ∃ (Ai : Option Addr) (ni ci : Nat), vs[i]? = some (Value.slice Ai ni ci) ∧ bs.length = ni ∧ ni ≤ ci ∧ Rd w Ai .u8 bs) : RdL w (some ⟨g, 0, none⟩) bss := by
  refine .inr ⟨g, 0, rfl, fun i bs hi => ?_⟩
  obtain ⟨Ai, ni, ci, h1, h2, h3, h4⟩ := hp i bs hi
  exact ⟨Ai, ni, ci, by rw [Nat.zero_add]; exact hc i _ h1, h2, h3, h4⟩
theorem os_cells {w : World} {g n c : Nat} {e : TypeId} {vs : List Value} (h : OwnS w e (.slice (some ⟨g, 0, none⟩) n c) vs) : ∀ (i : Nat) (u : Value), vs[i]? = some u → w.cell? ⟨g, i, none⟩ = some u := fun i u hi => by
  obtain ⟨A', c', hv, _, _, _, _, hcell⟩ := h.parts
  obtain ⟨g', off, hA, hc⟩ := hcell i u hi
  injection hv with e1 _ _
  rw [hA] at e1
  injection e1 with e1; injection e1 with e2 e3
  subst e2 e3
  rwa [Nat.zero_add] at hc
theorem two_list {w : World} {vs : List Value} {A B : Option Addr} {i n c m d : Nat} {xs ys bs : List Int} (hi : [xs, ys][i]? = some bs) (hv : vs = [.slice A n c, .slice B m d]) (hn : xs.length = n ∧ n ≤ c) (hx : Rd w A .u8 xs) (hm : ys.length = m) (hmd : m ≤ d) (hy : Rd w B .u8 ys) :
    ∃ (Ai : Option Addr) (ni ci : Nat), vs[i]? = some (.slice Ai ni ci) ∧ bs.length = ni ∧ ni ≤ ci ∧ Rd w Ai .u8 bs := by
  subst hv
  match i, hi with
  | 0, hi => simp at hi; subst hi; exact ⟨A, n, c, rfl, hn.1, hn.2, hx⟩
  | 1, hi => simp at hi; subst hi; exact ⟨B, m, d, rfl, hm, hmd, hy⟩
  | i + 2, hi => simp at hi
theorem three_list {w : World} {vs : List Value} {A B C : Option Addr} {i n c m d k f : Nat} {xs ys zs bs : List Int} (hi : [xs, ys, zs][i]? = some bs) (hv : vs = [.slice A n c, .slice B m d, .slice C k f]) (hn : xs.length = n ∧ n ≤ c) (hx : Rd w A .u8 xs) (hm : ys.length = m) (hmd : m ≤ d) (hy : Rd w B .u8 ys) (hk : zs.length = k) (hkf : k ≤ f) (hz : Rd w C .u8 zs) :
    ∃ (Ai : Option Addr) (ni ci : Nat), vs[i]? = some (.slice Ai ni ci) ∧ bs.length = ni ∧ ni ≤ ci ∧ Rd w Ai .u8 bs := by
  subst hv
  match i, hi with
  | 0, hi => simp at hi; subst hi; exact ⟨A, n, c, rfl, hn.1, hn.2, hx⟩
  | 1, hi => simp at hi; subst hi; exact ⟨B, m, d, rfl, hm, hmd, hy⟩
  | 2, hi => simp at hi; subst hi; exact ⟨C, k, f, rfl, hk, hkf, hz⟩
  | i + 3, hi => simp at hi
theorem two_B8 {x : Int} {ys : List Int} (hx : B8 x) (hy : ∀ y ∈ ys, B8 y) : ∀ bs ∈ [[x], ys], ∀ z ∈ bs, B8 z := fun bs hb z hz => by
  simp only [List.mem_cons, List.not_mem_nil, or_false] at hb
  rcases hb with rfl | rfl
  · simp at hz; exact hz ▸ hx
  · exact hy z hz
theorem three_B8 {x : Int} {ys zs : List Int} (hx : B8 x) (hy : ∀ y ∈ ys, B8 y) (hz0 : ∀ y ∈ zs, B8 y) : ∀ bs ∈ [[x], ys, zs], ∀ z ∈ bs, B8 z := fun bs hb z hz => by
  simp only [List.mem_cons, List.not_mem_nil, or_false] at hb
  rcases hb with rfl | rfl | rfl
  · simp at hz; exact hz ▸ hx
  · exact hy z hz
  · exact hz0 z hz
set_option maxHeartbeats 1000000 in
set_option maxRecDepth 100000 in
theorem leafP_calls (xs : List Int) (A : Option Addr) (m c : Nat) (w : World) (hm : xs.length = m) (hmc : m ≤ c) (hr : Rd w A .u8 xs) (hx : ∀ x ∈ xs, B8 x) (hsz : m ≤ 900000) :
    Calls Tryz.prog 41 #[.slice A m c] w fun e w' => e = .returned (.agg (ints .u8 (leafOf xs)).toArray) ∧ Below w.heap.size w w' := by
  have HM := hid hm
  have HR := hid hr
  have HX := hid hx
  have hS := HS.start NoF w
  have hsz2 : m ≤ 900000 := hsz
  have HLL : Hd ((leafOf xs).length = 32) := hid (leafOf_length xs)
  have HFL : Hd (shaOf [[0], xs].flatten = leafOf xs) := hid (by simp [leafOf])
  obtain ⟨ds, hds⟩ : ∃ ds, Hd (leafOf xs = ds) := ⟨_, hid rfl⟩
  rw [hds.out] at HLL HFL
  clear hm hr hx
  go_enter Tryz.func41, Tryz.ntmps41
  go_wp2_with (first
    | (refine alloc_blk rfl 25 rfl _ rfl (ints .u8 (List.replicate 32 0)) zeroHashS ?_; intro g2 w2 hga hba hBa hsa; replace hS := hS.pushBlk hBa hba hga; clear hga hba hBa hsa)
    | (refine hs_one hS rfl 29 5 _ rfl undBytesS sizeU8S zeroU8S (.int .u8 0) rfl rfl _ rfl ?_; clear hS; intro go wo hgo hBo hS; clear hgo hBo)
    | (refine hs_lit2 hS rfl 38 29 _ _ rfl undLB2 sizeBytes2 zeroBytes2 (.slice (some ⟨go, 0, none⟩) 1 1) (.slice A m c) rfl rfl rfl rfl _ rfl ?_; clear hS; intro gl wl hgl hBl hS; clear hgl hBl)
    | (go_at_call 43; refine (shasum_calls [[0], xs] 2 2 (some ⟨gl, 0, none⟩) _ rfl (rdL_of (os_cells (hS.os 0 rfl)) (fun i bs hi => two_list hi rfl (by decide) ((hS.os 1 rfl).rd rfl) HM.out hmc (hS.oldRd HR.out (fun _ _ _ h => h)))) (two_B8 zero_B8 HX.out) (by simp [HM.out]; omega) (by decide)).mono ?_; rintro e w6 ⟨rfl, hB6⟩; replace hS := hS.below hB6; rw [HFL.out])
    | (refine hs_storeW hS 2 rfl rfl 25 _ _ rfl rfl (ints .u8 ds) rfl (ints_one' _ _) _ infoHashS (by simp [HLL.out]) (by simp) _ rfl ?_; clear hS; intro w9 hS)
    | fail)
  refine bodyPost_ret (results_blk rfl _ _ g2 _ _ 32 _ rfl (hS.blk 2 rfl) arrHashS (by simp [HLL.out]) infoHashS) rfl ⟨by rw [hds.out], hS.bel⟩
set_option maxHeartbeats 1000000 in
set_option maxRecDepth 100000 in
theorem nodeP_calls (l r : List Int) (w : World) (hl : l.length = 32) (hr : r.length = 32) (bl : ∀ x ∈ l, B8 x) (br : ∀ x ∈ r, B8 x) :
    Calls Tryz.prog 69 #[.agg (ints .u8 l).toArray, .agg (ints .u8 r).toArray] w fun e w' => e = .returned (.agg (ints .u8 (nodeOf l r)).toArray) ∧ Below w.heap.size w w' := by
  have HL := hid hl
  have HR := hid hr
  have BL := hid bl
  have BR := hid br
  have hS := HS.start NoF w
  have HLL : Hd ((nodeOf l r).length = 32) := hid (nodeOf_length l r)
  have HFL : Hd (shaOf [[1], l, r].flatten = nodeOf l r) := hid (by simp [nodeOf])
  obtain ⟨ds, hds⟩ : ∃ ds, Hd (nodeOf l r = ds) := ⟨_, hid rfl⟩
  rw [hds.out] at HLL HFL
  clear hl hr bl br
  go_enter Tryz.func69, Tryz.ntmps69
  go_wp2_with (first
    | (refine box_blk rfl 25 _ rfl _ rfl (ints .u8 l) rfl ?_; intro g2 w2 hga hba hBa hsa; replace hS := hS.pushBlk hBa hba hga; clear hga hba hBa hsa)
    | (refine box_blk rfl 25 _ rfl _ rfl (ints .u8 r) rfl ?_; intro g3 w3 hga hba hBa hsa; replace hS := hS.pushBlk hBa hba hga; clear hga hba hBa hsa)
    | (refine alloc_blk rfl 25 rfl _ rfl (ints .u8 (List.replicate 32 0)) zeroHashS ?_; intro g4 w4 hga hba hBa hsa; replace hS := hS.pushBlk hBa hba hga; clear hga hba hBa hsa)
    | fail)
  try go_wp2_with fail
  refine wp_region_S (F := NoF) (w0 := w) (L0 := [ZH g4, .blk g3 25 (ints .u8 r), .blk g2 25 (ints .u8 l)]) [] [0, 3, 4, 5]
    (fun iK u E => match iK with
      | _ => False)
    ([]) (by kernel_rfl) (by kernel_rfl) hS ?_
  show wpS _ _ _ _ _ _ _ _ _ _ [0, 1, 2, 3, 4, 5] _
  refine wpS_hard (i := 0) rfl rfl ?_
  intro w0 hT
  simp only [getElem_toArray, getElem_cons_zero, getElem_cons_succ]
  go_wp2_with (first
    | (refine hs_one hT rfl 29 5 _ rfl undBytesS sizeU8S zeroU8S (.int .u8 1) rfl rfl _ rfl ?_; clear hT; intro go wo hgo hBo hT)
    | fail)
  refine HardP.mk' ([.os 5 (.slice (some ⟨go, 0, none⟩) 1 1) (ints .u8 [1])]) rfl ?_ ?_
  · exact hT
  clear hT
  clear hgo hBo
  apply wpS_read (i := 1) rfl rfl ⟨_, hS⟩ rfl
  · intro w' hT'
    simp only [getElem_toArray, getElem_cons_zero, getElem_cons_succ]
    go_wp2_with fail
    first | exact ⟨rfl, rfl, rfl⟩ | rfl
  apply wpS_read (i := 2) rfl rfl ⟨_, hS⟩ rfl
  · intro w' hT'
    simp only [getElem_toArray, getElem_cons_zero, getElem_cons_succ]
    go_wp2_with fail
    first | exact ⟨rfl, rfl, rfl⟩ | rfl
  refine wpS_hard (i := 3) rfl rfl ?_
  intro w3 hT
  replace hT : HS NoF w w3 [.os 5 (.slice (some ⟨go, 0, none⟩) 1 1) (ints .u8 [1]), ZH g4, .blk g3 25 (ints .u8 r), .blk g2 25 (ints .u8 l)] := hT
  simp only [getElem_toArray, getElem_cons_zero, getElem_cons_succ]
  go_wp2_with (first
    | (refine hs_lit3 hT rfl 38 29 _ _ _ rfl undLB2 sizeBytes2 zeroBytes2 (.slice (some ⟨go, 0, none⟩) 1 1) (.slice (some ⟨g2, 0, none⟩) 32 32) (.slice (some ⟨g3, 0, none⟩) 32 32) rfl rfl rfl rfl rfl rfl _ rfl ?_; clear hT; intro gl wl hgl hBl hT)
    | fail)
  refine HardP.mk' ([.os 29 (.slice (some ⟨gl, 0, none⟩) 3 3) [.slice (some ⟨go, 0, none⟩) 1 1, .slice (some ⟨g2, 0, none⟩) 32 32, .slice (some ⟨g3, 0, none⟩) 32 32], .os 5 (.slice (some ⟨go, 0, none⟩) 1 1) (ints .u8 [1])]) rfl ?_ ?_
  · exact hT
  clear hT
  clear hgl hBl
  refine wpS_hard (i := 4) rfl rfl ?_
  intro w4 hT
  replace hT : HS NoF w w4 [.os 29 (.slice (some ⟨gl, 0, none⟩) 3 3) [.slice (some ⟨go, 0, none⟩) 1 1, .slice (some ⟨g2, 0, none⟩) 32 32, .slice (some ⟨g3, 0, none⟩) 32 32], .os 5 (.slice (some ⟨go, 0, none⟩) 1 1) (ints .u8 [1]), ZH g4, .blk g3 25 (ints .u8 r), .blk g2 25 (ints .u8 l)] := hT
  simp only [getElem_toArray, getElem_cons_zero, getElem_cons_succ]
  go_wp2_with (first
    | (go_at_call 43; refine (shasum_calls [[1], l, r] 3 3 (some ⟨gl, 0, none⟩) _ rfl (rdL_of (os_cells (hT.os 0 rfl)) (fun i bs hi => three_list hi rfl (by decide) ((hT.os 1 rfl).rd rfl) HL.out (by decide) (Blk.rdA (hT.blk 4 rfl)) HR.out (by decide) (Blk.rdA (hT.blk 3 rfl)))) (three_B8 one_B8 BL.out BR.out) (by simp [HL.out, HR.out]) (by decide)).mono ?_; rintro e wq ⟨rfl, hB6⟩; replace hT := hT.below hB6; rw [HFL.out])
    | fail)
  refine HardP.mk' ([.os 29 (.slice (some ⟨gl, 0, none⟩) 3 3) [.slice (some ⟨go, 0, none⟩) 1 1, .slice (some ⟨g2, 0, none⟩) 32 32, .slice (some ⟨g3, 0, none⟩) 32 32], .os 5 (.slice (some ⟨go, 0, none⟩) 1 1) (ints .u8 [1])]) rfl ?_ ?_
  · exact hT
  clear hT
  refine wpS_tot (i := 5) rfl rfl (by kernel_rfl) ?_
  intro w5 hT
  replace hT : HS NoF w w5 [.os 29 (.slice (some ⟨gl, 0, none⟩) 3 3) [.slice (some ⟨go, 0, none⟩) 1 1, .slice (some ⟨g2, 0, none⟩) 32 32, .slice (some ⟨g3, 0, none⟩) 32 32], .os 5 (.slice (some ⟨go, 0, none⟩) 1 1) (ints .u8 [1]), ZH g4, .blk g3 25 (ints .u8 r), .blk g2 25 (ints .u8 l)] := hT
  simp only [getElem_toArray, getElem_cons_zero, getElem_cons_succ]
  go_wp2_with (first
    | ((refine hs_storeW hT 2 rfl rfl 25 _ _ rfl rfl (ints .u8 ds) rfl (ints_one' _ _) _ infoHashS (by simp [HLL.out]) (by simp) _ rfl ?_; clear hT; intro w9 hT))
    | fail)
  refine TotP.mk' ([.os 29 (.slice (some ⟨gl, 0, none⟩) 3 3) [.slice (some ⟨go, 0, none⟩) 1 1, .slice (some ⟨g2, 0, none⟩) 32 32, .slice (some ⟨g3, 0, none⟩) 32 32], .os 5 (.slice (some ⟨go, 0, none⟩) 1 1) (ints .u8 [1]), .blk g4 25 (ints .u8 ds), .blk g3 25 (ints .u8 r), .blk g2 25 (ints .u8 l)]) rfl ?_ ?_
  · exact hT
  clear hT
  refine wpS_end ?_
  intro wz hT
  try dsimp only
  clear hS
  have hS : HS NoF w wz [.os 29 (.slice (some ⟨gl, 0, none⟩) 3 3) [.slice (some ⟨go, 0, none⟩) 1 1, .slice (some ⟨g2, 0, none⟩) 32 32, .slice (some ⟨g3, 0, none⟩) 32 32], .os 5 (.slice (some ⟨go, 0, none⟩) 1 1) (ints .u8 [1]), .blk g4 25 (ints .u8 ds), .blk g3 25 (ints .u8 r), .blk g2 25 (ints .u8 l)] := hT
  clear hT
  go_wp2_with fail
  refine bodyPost_ret (results_blk rfl _ _ g4 _ _ 32 _ rfl (hS.blk 2 rfl) arrHashS (by simp [HLL.out]) infoHashS) rfl ⟨by rw [hds.out], hS.bel⟩
theorem split_bits : ∀ n, n < 1025 → 2 ≤ n → splitOf n = 2 ^ (Lib.bitLen (n - 1) - 1) ∧ 1 ≤ Lib.bitLen (n - 1) ∧ Lib.bitLen (n - 1) ≤ 10 := by
  have h : ((List.range 1025).all fun n => decide (n < 2) || (decide (splitOf n = 2 ^ (Lib.bitLen (n - 1) - 1)) && decide (1 ≤ Lib.bitLen (n - 1)) && decide (Lib.bitLen (n - 1) ≤ 10))) = true := by kernel_rfl
  intro n hn h2
  have := List.all_eq_true.1 h n (List.mem_range.2 hn)
  simp at this
  omega
theorem wrap_pow : ∀ b : Nat, b < 11 → 1 ≤ b → wrap64 (2 ^ (b - 1)) = ((2 ^ (b - 1) : Nat) : Int) := by decide +kernel
set_option maxHeartbeats 1000000 in
set_option maxRecDepth 100000 in
theorem splitP_calls (n : Nat) (w : World) (h2 : 2 ≤ n) (hn : n ≤ 1000) : Calls Tryz.prog 68 #[.int .i64 (n : Int)] w fun e w' => e = .returned (.int .i64 (splitOf n : Nat)) ∧ w' = w := by
  obtain ⟨hs, hb1, hb2⟩ := split_bits n (by omega) h2
  have HS' := hid hs
  clear hs
  obtain ⟨b, hb⟩ : ∃ b, Hd (Lib.bitLen (n - 1) = b) := ⟨_, hid rfl⟩
  rw [hb.out] at HS' hb1 hb2
  have HL := hid (fun w => lenS_calls ((n - 1 : Nat) : Int) w (by omega) (by omega))
  rw [Int.toNat_natCast, hb.out] at HL
  have hlt : ¬ (n : Int) < 2 := by omega
  have hnn : ((n : Int) - 1) = ((n - 1 : Nat) : Int) := by omega
  obtain ⟨q, hq⟩ : ∃ q, n - 1 = q := ⟨_, rfl⟩
  rw [hq] at HL hnn
  go_enter Tryz.func68, Tryz.ntmps68
  go_wp2_with (first
    | (go_at_call 84; refine (HL.out _).mono ?_; rintro e w6 ⟨rfl, rfl⟩)
    | fail)
  go_ret
  exact ⟨by rw [HS'.out]; first | (have := wrap_pow b (by omega) hb1; simp_all) | (trace_state; go_num), rfl⟩
set_option maxHeartbeats 1000000 in
set_option maxRecDepth 100000 in
theorem rootP_calls : ∀ (f : Nat) (hss : List (List Int)) (A : Option Addr) (n c : Nat) (w : World) (_ : hss.length = n) (_ : n ≤ f) (_ : HRd w A hss) (_ : H32 hss) (_ : n ≤ c) (_ : n ≤ 1000),
    Calls Tryz.prog 42 #[.slice A n c] w fun e w' => e = .returned (.agg (ints .u8 (rootF f hss)).toArray) ∧ Below w.heap.size w w' := by
  intro f
  induction f with
  | zero =>
    intro hss A n c w hl hf hr h32 hc hn
    obtain rfl : n = 0 := by omega
    have hS := HS.start NoF w
    clear hl hf hr h32 hc hn
    have HSL : Hd ((shaOf []).length = 32) := hid (shaOf_length [])
    obtain ⟨ds, hds⟩ : ∃ ds, Hd (shaOf [] = ds) := ⟨_, hid rfl⟩
    rw [hds.out] at HSL
    go_enter Tryz.func42, Tryz.ntmps42
    go_wp2_with (first
      | (refine alloc_blk rfl 25 rfl _ rfl (ints .u8 (List.replicate 32 0)) zeroHashS ?_; intro g2 w2 hga hba hBa hsa; replace hS := hS.pushBlk hBa hba hga; clear hga hba hBa hsa)
      | (go_at_call 43; refine (shasum_calls [] 0 0 none _ rfl (.inl rfl) (fun _ h => by cases h) (by simp) (by decide)).mono ?_; rintro e w6 ⟨rfl, hB6⟩; replace hS := hS.below hB6; rw [show shaOf ([] : List (List Int)).flatten = ds from hds.out])
      | (refine hs_storeW hS 0 rfl rfl 25 _ _ rfl rfl (ints .u8 ds) rfl (ints_one' _ _) _ infoHashS (by simp [HSL.out]) (by simp) _ rfl ?_; clear hS; intro w9 hS)
      | fail)
    refine bodyPost_ret (results_blk rfl _ _ g2 _ _ 32 _ rfl (hS.blk 0 rfl) arrHashS (by simp [HSL.out]) infoHashS) rfl ⟨by unfold rootF; rw [hds.out], hS.bel⟩
  | succ f ih =>
    intro hss A n c w hl hf hr h32 hc hn
    by_cases h0 : n = 0
    · subst h0
      have hS := HS.start NoF w
      have hR : Hd (rootF (f + 1) hss = shaOf []) := hid (by unfold rootF; rw [if_pos hl])
      clear hl hf hr h32 hc hn
      have HSL : Hd ((shaOf []).length = 32) := hid (shaOf_length [])
      obtain ⟨ds, hds⟩ : ∃ ds, Hd (shaOf [] = ds) := ⟨_, hid rfl⟩
      rw [hds.out] at HSL hR
      rw [hR.out]
      go_enter Tryz.func42, Tryz.ntmps42
      go_wp2_with (first
        | (refine alloc_blk rfl 25 rfl _ rfl (ints .u8 (List.replicate 32 0)) zeroHashS ?_; intro g2 w2 hga hba hBa hsa; replace hS := hS.pushBlk hBa hba hga; clear hga hba hBa hsa)
        | (go_at_call 43; refine (shasum_calls [] 0 0 none _ rfl (.inl rfl) (fun _ h => by cases h) (by simp) (by decide)).mono ?_; rintro e w6 ⟨rfl, hB6⟩; replace hS := hS.below hB6; rw [show shaOf ([] : List (List Int)).flatten = ds from hds.out])
        | (refine hs_storeW hS 0 rfl rfl 25 _ _ rfl rfl (ints .u8 ds) rfl (ints_one' _ _) _ infoHashS (by simp [HSL.out]) (by simp) _ rfl ?_; clear hS; intro w9 hS)
        | fail)
      refine bodyPost_ret (results_blk rfl _ _ g2 _ _ 32 _ rfl (hS.blk 0 rfl) arrHashS (by simp [HSL.out]) infoHashS) rfl ⟨rfl, hS.bel⟩
    · by_cases h1 : n = 1
      · subst h1
        have hS := HS.start NoF w
        obtain ⟨x, rfl⟩ := List.length_eq_one_iff.1 hl
        have HXL : Hd (x.length = 32) := hid (h32 x (by simp)).1
        have hR : Hd (rootF (f + 1) [x] = x) := hid rfl
        rw [hR.out]
        obtain ⟨g, o, rfl, hcell⟩ : ∃ g o, A = some ⟨g, o, none⟩ ∧ ∀ j v, (ints .u8 x)[j]? = some v → w.cell? ⟨g, o + j, none⟩ = some v := by
          rcases hr with h | ⟨g, o, h1, h2⟩
          · cases h
          · exact ⟨g, o, h1, fun j v hj => by have := h2 0 x j v rfl hj; rwa [Nat.zero_mul, Nat.add_zero] at this⟩
        have HC := hid hcell
        clear hl hf hr h32 hn h0 hcell hR
        go_enter Tryz.func42, Tryz.ntmps42
        go_wp2_with (first
          | (refine alloc_blk rfl 25 rfl _ rfl (ints .u8 (List.replicate 32 0)) zeroHashS ?_; intro g2 w2 hga hba hBa hsa; replace hS := hS.pushBlk hBa hba hga; clear hga hba hBa hsa)
          | (refine load_in rfl 25 _ rfl g o rfl (ints .u8 x) (fun j v hj => hS.oldCell (HC.out j v hj) (fun h => h)) 32 5 arrHashS (by simp [HXL.out]) infoHashS ?_)
          | (refine hs_storeW hS 0 rfl rfl 25 _ _ rfl rfl (ints .u8 x) rfl (ints_one' _ _) _ infoHashS (by simp [HXL.out]) (by simp) _ rfl ?_; clear hS; intro w9 hS)
          | fail)
        refine bodyPost_ret (results_blk rfl _ _ g2 _ _ 32 _ rfl (hS.blk 0 rfl) arrHashS (by simp [HXL.out]) infoHashS) rfl ⟨rfl, hS.bel⟩
      · have hS := HS.start NoF w
        have hp := splitOf_pos (n := n) (by omega)
        have hR : Hd (rootF (f + 1) hss = nodeOf (rootF f (hss.take (splitOf n))) (rootF f (hss.drop (splitOf n)))) := hid (by
          conv => lhs; unfold rootF
          rw [hl, if_neg h0, if_neg h1])
        obtain ⟨g, o, rfl⟩ : ∃ g o, A = some ⟨g, o, none⟩ := by
          rcases hr with h | ⟨g, o, h1, _⟩
          · subst h; simp at hl; omega
          · exact ⟨g, o, h1⟩
        have HS1 := hid (rootF_H32 f _ (h32.take (splitOf n)))
        have HS2 := hid (rootF_H32 f _ (h32.drop (splitOf n)))
        have hsp := splitP_calls n
        obtain ⟨k, hk⟩ : ∃ k, splitOf n = k := ⟨_, rfl⟩
        rw [hk] at hR HS1 HS2 hp hsp
        have HR1 := hid (hr.take k)
        have HR2 := hid (hr.drop k)
        have H1 := hid (h32.take k)
        have H2 := hid (h32.drop k)
        have HL1 : Hd ((hss.take k).length = k) := hid (by rw [List.length_take]; omega)
        have HL2 : Hd ((hss.drop k).length = n - k) := hid (by rw [List.length_drop]; omega)
        rw [hR.out]
        generalize hss.take k = ls at *
        generalize hss.drop k = rs at *
        obtain ⟨X, hX⟩ : ∃ X, Hd (rootF f ls = X) := ⟨_, hid rfl⟩
        obtain ⟨Y, hY⟩ : ∃ Y, Hd (rootF f rs = Y) := ⟨_, hid rfl⟩
        rw [hX.out] at HS1
        rw [hY.out] at HS2
        rw [hX.out, hY.out]
        have HDL : Hd ((nodeOf X Y).length = 32) := hid (nodeOf_length X Y)
        obtain ⟨ds, hds⟩ : ∃ ds, Hd (nodeOf X Y = ds) := ⟨_, hid rfl⟩
        rw [hds.out] at HDL
        obtain ⟨d, hd⟩ : ∃ d, n - k = d := ⟨_, rfl⟩
        rw [hd] at HL2
        have HF := hid hf
        have HP := hid hp
        have HD := hid hd
        have HI := hid ih
        clear hl hr h32 hR hk hf ih hp hd
        have hn0 : ¬ (n : Int) = 0 := by omega
        have hn1 : ¬ (n : Int) = 1 := by omega
        have hn2 : 2 ≤ n := by omega
        go_enter Tryz.func42, Tryz.ntmps42
        go_wp2_with (first
          | (refine alloc_blk rfl 25 rfl _ rfl (ints .u8 (List.replicate 32 0)) zeroHashS ?_; intro g2 w2 hga hba hBa hsa; replace hS := hS.pushBlk hBa hba hga; clear hga hba hBa hsa)
          | (go_at_call 68; refine (hsp _ (by omega) (by omega)).mono ?_; rintro e w6 ⟨rfl, rfl⟩)
          | fail)
        try go_wp2_with fail
        refine wp_region_S (F := NoF) (w0 := w) (L0 := [ZH g2]) [3, 7, 8] [9]
          (fun iK u E => match iK with
            | 3 => u = .agg (ints .u8 X).toArray ∧ E = []
            | 7 => u = .agg (ints .u8 Y).toArray ∧ E = []
            | 8 => u = .agg (ints .u8 ds).toArray ∧ E = []
            | _ => False)
          ([]) (by kernel_rfl) (by kernel_rfl) hS ?_
        show wpS _ _ _ _ _ _ _ _ _ _ [0, 1, 2, 3, 4, 5, 6, 7, 8, 9] _
        apply wpS_read (i := 0) rfl rfl ⟨_, hS⟩ rfl
        · intro w' hT'
          simp only [getElem_toArray, getElem_cons_zero, getElem_cons_succ]
          go_wp2_with fail
          first | exact ⟨rfl, rfl, rfl⟩ | rfl
        apply wpS_read (i := 1) rfl rfl ⟨_, hS⟩ rfl
        · intro w' hT'
          simp only [getElem_toArray, getElem_cons_zero, getElem_cons_succ]
          go_wp2_with fail
          first | exact ⟨rfl, rfl, rfl⟩ | rfl
        apply wpS_read (i := 2) rfl rfl ⟨_, hS⟩ rfl
        · intro w' hT'
          simp only [getElem_toArray, getElem_cons_zero, getElem_cons_succ]
          go_wp2_with (first
            | (refine slice_hiS rfl _ _ 78 rfl 25 undLHashT 32 infoHashS g o n c k rfl rfl (by have := HP.out; omega) (by omega) _ rfl ?_)
            | (refine slice_loS rfl _ _ 78 rfl 25 undLHashT 32 infoHashS g o n c k d rfl rfl (by have := HP.out; omega) (by have := HP.out; omega) HD.out _ rfl ?_)
            | fail)
          first | exact ⟨rfl, rfl, rfl⟩ | rfl
        refine wpS_soft (i := 3) rfl rfl rfl (Nat.le_of_ble_eq_true rfl) ?_ ?_
        · intro w' hT
          simp only [getElem_toArray, getElem_cons_zero, getElem_cons_succ]
          go_wp2_with (first
            | (go_at_call 42; refine (HI.out ls (some ⟨g, o, none⟩) k c _ HL1.out (by have := HF.out; have := HP.out; omega) (HRd.oldS hT HR1.out) H1.out (by have := HP.out; omega) (by have := HP.out; omega)).mono ?_; rintro e w6 ⟨rfl, hB6⟩; rw [hX.out])
            | fail)
          exact SoftP.mk' (.agg (ints .u8 X).toArray) ([]) rfl (⟨rfl, rfl⟩) (hT.below hB6) (hB6) (fun _ h => by cases h)
        intro u3 E3 hK3
        obtain ⟨rfl, rfl⟩ := hK3
        simp only [Act.put, List.setIfInBounds_toArray, List.set_cons_zero, List.set_cons_succ]
        apply wpS_read (i := 4) rfl rfl ⟨_, hS⟩ rfl
        · intro w' hT'
          simp only [getElem_toArray, getElem_cons_zero, getElem_cons_succ]
          go_wp2_with fail
          first | exact ⟨rfl, rfl, rfl⟩ | rfl
        apply wpS_read (i := 5) rfl rfl ⟨_, hS⟩ rfl
        · intro w' hT'
          simp only [getElem_toArray, getElem_cons_zero, getElem_cons_succ]
          go_wp2_with fail
          first | exact ⟨rfl, rfl, rfl⟩ | rfl
        apply wpS_read (i := 6) rfl rfl ⟨_, hS⟩ rfl
        · intro w' hT'
          simp only [getElem_toArray, getElem_cons_zero, getElem_cons_succ]
          go_wp2_with (first
            | (refine slice_hiS rfl _ _ 78 rfl 25 undLHashT 32 infoHashS g o n c k rfl rfl (by have := HP.out; omega) (by omega) _ rfl ?_)
            | (refine slice_loS rfl _ _ 78 rfl 25 undLHashT 32 infoHashS g o n c k d rfl rfl (by have := HP.out; omega) (by have := HP.out; omega) HD.out _ rfl ?_)
            | fail)
          first | exact ⟨rfl, rfl, rfl⟩ | rfl
        refine wpS_soft (i := 7) rfl rfl rfl (Nat.le_of_ble_eq_true rfl) ?_ ?_
        · intro w' hT
          simp only [getElem_toArray, getElem_cons_zero, getElem_cons_succ]
          go_wp2_with (first
            | (go_at_call 42; refine (HI.out rs (some ⟨g, o + k * 32, none⟩) d (c - k) _ HL2.out (by have := HF.out; have := HP.out; have := HD.out; omega) (HRd.oldS hT HR2.out) H2.out (by have := HP.out; have := HD.out; omega) (by have := HP.out; have := HD.out; omega)).mono ?_; rintro e w6 ⟨rfl, hB6⟩; rw [hY.out])
            | fail)
          exact SoftP.mk' (.agg (ints .u8 Y).toArray) ([]) rfl (⟨rfl, rfl⟩) (hT.below hB6) (hB6) (fun _ h => by cases h)
        intro u7 E7 hK7
        obtain ⟨rfl, rfl⟩ := hK7
        simp only [Act.put, List.setIfInBounds_toArray, List.set_cons_zero, List.set_cons_succ]
        refine wpS_soft (i := 8) rfl rfl rfl (Nat.le_of_ble_eq_true rfl) ?_ ?_
        · intro w' hT
          simp only [getElem_toArray, getElem_cons_zero, getElem_cons_succ]
          go_wp2_with (first
            | (go_at_call 69; refine (nodeP_calls X Y _ HS1.out.1 HS2.out.1 HS1.out.2 HS2.out.2).mono ?_; rintro e w6 ⟨rfl, hB6⟩; rw [hds.out])
            | fail)
          exact SoftP.mk' (.agg (ints .u8 ds).toArray) ([]) rfl (⟨rfl, rfl⟩) (hT.below hB6) (hB6) (fun _ h => by cases h)
        intro u8 E8 hK8
        obtain ⟨rfl, rfl⟩ := hK8
        simp only [Act.put, List.setIfInBounds_toArray, List.set_cons_zero, List.set_cons_succ]
        refine wpS_tot (i := 9) rfl rfl (by kernel_rfl) ?_
        intro w9 hT
        replace hT : HS NoF w w9 [ZH g2] := hT
        simp only [getElem_toArray, getElem_cons_zero, getElem_cons_succ]
        go_wp2_with (first
          | (refine hs_storeW hT 0 rfl rfl 25 _ _ rfl rfl (ints .u8 ds) rfl (ints_one' _ _) _ infoHashS (by simp [HDL.out]) (by simp) _ rfl ?_; clear hT; intro w9 hT)
          | fail)
        refine TotP.mk' ([.blk g2 25 (ints .u8 ds)]) rfl ?_ ?_
        · exact hT
        clear hT
        refine wpS_end ?_
        intro wz hT
        try dsimp only
        clear hS
        have hS : HS NoF w wz [.blk g2 25 (ints .u8 ds)] := hT
        clear hT
        go_wp2_with fail
        refine bodyPost_ret (results_blk rfl _ _ g2 _ _ 32 _ rfl (hS.blk 0 rfl) arrHashS (by simp [HDL.out]) infoHashS) rfl ⟨by rw [hds.out], hS.bel⟩
end Go.Proofs.YtlikinglgegclaaGreatDoor
/- desc.Make. -/
namespace Go.Proofs.YtlikinglgegclaaGreatDoor
open Go.RowKit Go.Cour
/-- Texts, listed, with their capacities. -/
def PRc (w : World) (A : Option Addr) (xss : List (List Int)) : Prop := xss = [] ∨ ∃ g o, A = some ⟨g, o, none⟩ ∧ ∀ (i : Nat) (X : List Int), xss[i]? = some X → ∃ Ai ci, w.cell? ⟨g, o + i, none⟩ = some (.slice Ai X.length ci) ∧ X.length ≤ ci ∧ Rd w Ai .u8 X
theorem PRc.at {w : World} {A : Option Addr} {xss : List (List Int)} (h : PRc w A xss) (i : Nat) (hi : i < xss.length) : ∃ g o X Ai ci, A = some ⟨g, o, none⟩ ∧ xss[i]? = some X ∧ w.cell? ⟨g, o + i, none⟩ = some (.slice Ai X.length ci) ∧ X.length ≤ ci ∧ Rd w Ai .u8 X := by
  rcases h with h | ⟨g, o, h1, h2⟩
  · subst h; simp at hi
  · obtain ⟨Ai, ci, h3, h4, h5⟩ := h2 i _ (List.getElem?_eq_getElem hi)
    exact ⟨g, o, _, Ai, ci, h1, List.getElem?_eq_getElem hi, h3, h4, h5⟩
theorem ownL_prc {w : World} {b : Nat} {e : TypeId} {v : Value} {xss : List (List Int)} (h : OwnL w b e 5 .u8 v xss) : ∃ A c, v = .slice A xss.length c ∧ xss.length ≤ c ∧ PRc w A xss := by
  obtain ⟨cs, hv, hl, hr⟩ := h
  obtain ⟨A, c, rfl, hc, hA, hcell⟩ := hv.parts
  refine ⟨A, c, by rw [hl], by omega, ?_⟩
  by_cases h0 : xss = []
  · exact .inl h0
  · have hpos : 0 < xss.length := List.length_pos_iff.2 h0
    obtain ⟨g, hA2, _⟩ := hcell 0 (by omega)
    refine .inr ⟨g, 0, hA2, fun i X hi => ?_⟩
    have hil := (List.getElem?_eq_some_iff.1 hi).1
    obtain ⟨g', hA3, hce⟩ := hcell i (by omega)
    rw [hA2] at hA3
    injection hA3 with hA3; injection hA3 with hA3
    subst hA3
    have h1 := hr i hil
    have e1 : xss.getD i [] = X := by rw [List.getD_eq_getElem?_getD, hi]; rfl
    have e2 : cs[i]? = some (cs.getD i undef) := by rw [List.getD_eq_getElem?_getD, List.getElem?_eq_getElem (by omega)]; rfl
    rw [e1] at h1
    obtain ⟨Ai, ci, h2, hle, _, h5⟩ := h1.slice
    exact ⟨Ai, ci, by rw [Nat.zero_add, hce, e2, h2], hle, h5⟩
theorem one_listP {w : World} {vs : List Value} {A : Option Addr} {i n c : Nat} {xs bs : List Int} (hi : [xs][i]? = some bs) (hv : vs = [.slice A n c]) (hn : xs.length = n) (hc : n ≤ c) (hx : Rd w A .u8 xs) :
    ∃ (Ai : Option Addr) (ni ci : Nat), vs[i]? = some (.slice Ai ni ci) ∧ bs.length = ni ∧ ni ≤ ci ∧ Rd w Ai .u8 bs := by
  subst hv
  match i, hi with
  | 0, hi => simp at hi; subst hi; exact ⟨A, n, c, rfl, hn, hc, hx⟩
  | i + 1, hi => simp at hi
set_option maxHeartbeats 2000000 in
set_option maxRecDepth 100000 in
theorem makeP_calls (key xs : List Int) (id q : Int) (A : Option Addr) (m c : Nat) (w : World) (hk : key.length = 32) (rk : bytesOk key)
    (rx : bytesOk xs) (hm : xs.length = m) (hA : A = none → c = 0) (hc : m ≤ c) (hr : Rd w A .u8 xs) (hl : m ≤ 600) (hq : 1 ≤ q ∧ q ≤ 64) (hi : 0 ≤ id ∧ id < 4294967296) :
    Calls Tryz.prog 15 #[.int .u32 id, .slice A m c, .int .i64 q, .agg (ints .u8 key).toArray] w fun e w' => ∃ v, e = .returned (.tuple #[.agg (descC id m q key (rootOf (hashesOf (allTexts key xs q))) (shaOf (blobOf (allTexts key xs q)))).toArray, v]) ∧ OwnS w' 5 v (ints .u8 (blobOf (allTexts key xs q))) ∧ (∀ k, v.ownBlock = some k → w.heap.size ≤ k) ∧ Below w.heap.size w w' := by
  have HK := hid hk
  have RK := hid rk
  have RX := hid rx
  have HM := hid hm
  have HA := hid hA
  have HR := hid hr
  have hS := HS.start NoF w
  have HTS := hid (allTexts_size key xs q (by omega) hq)
  have HTO := hid (allTexts_ok key xs q rx hq)
  clear hk rk rx hm hA hr
  obtain ⟨hq1, hq2⟩ := hq
  have hl2 : ¬ (600 : Int) < m := by omega
  have hq3 : ¬ q < 1 := by omega
  have hq4 : ¬ (64 : Int) < q := by omega
  go_enter Tryz.func15, Tryz.ntmps15
  go_wp2_with (first
    | (refine box_blk rfl 24 _ rfl _ rfl (ints .u8 key) rfl ?_; intro g7 w7 hga hba hBa hsa; replace hS := hS.pushBlk hBa hba hga; clear hga hba hBa hsa)
    | (refine alloc_blk rfl 27 rfl _ rfl zeroD zeroDesc ?_; intro g8 w8 hga hba hBa hsa; replace hS : HS NoF w w8 [ZD g8, .blk g7 24 (ints .u8 key)] := hS.pushBlk hBa hba hga; clear hga hba hBa hsa)
    | (refine hs_loadW hS 1 rfl rfl 24 _ rfl rfl 32 infoKeyS (by simp [HK.out]) _ arrKeyS rfl _ rfl ?_)
    | (go_at_call 40; refine (all_calls key xs q A m c _ HK.out RK.out HM.out.symm HA.out hc (hS.oldRd HR.out (fun _ _ _ h => h)) (by rw [HM.out]; omega) (by omega)).mono ?_; rintro e w5 ⟨v5, rfl, hox, hB5⟩
       replace hS := hS.pushSnap hB5; clear hB5
       obtain ⟨A5, c5, rfl, hc5, hp5⟩ := ownL_prc hox
       obtain ⟨B5, hB5⟩ : ∃ B, Hd (w8.heap.size = B) := ⟨_, hid rfl⟩
       rw [hB5.out] at hS hox
       have HP : Hd (∀ w', (∀ k, B5 ≤ k → k < w5.heap.size → w'.heap[k]? = w5.heap[k]?) → PRc w' A5 (allTexts key xs q)) := hid (fun w' hs => by
         obtain ⟨A', c', hv', _, hp⟩ := ownL_prc (OwnL.snap hox hs)
         injection hv' with h1
         subst h1
         exact hp)
       clear hox hp5)
    | fail)
  obtain ⟨ts, hts⟩ : ∃ ts, Hd (allTexts key xs q = ts) := ⟨_, hid rfl⟩
  rw [hts.out] at hc5 HTS HTO HP ⊢
  obtain ⟨N, hN⟩ : ∃ N, Hd (ts.length = N) := ⟨_, hid rfl⟩
  rw [hN.out] at hc5 HTS ⊢
  have hN6 : N ≤ 600 := HTS.out
  have hHL : Hd ((hashesOf ts).length = N) := hid (by rw [← hN.out]; simp [hashesOf])
  have hH32 := hid (hashesOf_H32 ts)
  replace hS : HS NoF w w5 [.oa 25 32 (.slice none 0 0) (rowsOf ((hashesOf ts).take 0)), .os 5 (.slice none 0 0) (ints .u8 ((hashesOf ts).take 0).flatten), .snap B5 w5, ZD g8, .blk g7 24 (ints .u8 key)] := (hS.push (Below.refl _ _) (.os 5 (.slice none 0 0) []) (OwnS.nil _ _) (fun k hk => by simp [Ent.os, Value.ownBlock] at hk)).push (Below.refl _ _) (.oa 25 32 (.slice none 0 0) []) (OwnA.nil _ _ _) (fun k hk => by simp [Ent.oa, Value.ownBlock] at hk)
  go_loopg [10, 11, 14, 36] N (fun kq v10 v11 v14 v36 wr => ∃ (i : Nat) (A1 : Option Addr) (n1 c1 : Nat) (A2 : Option Addr) (n2 c2 : Nat), i ≤ N ∧ v11 = .slice A1 n1 c1 ∧ v10 = .slice A2 n2 c2 ∧ v36 = .int .i64 i ∧ Hd (kq + i = N) ∧ HS NoF w wr [.oa 25 32 (.slice A1 n1 c1) (rowsOf ((hashesOf ts).take i)), .os 5 (.slice A2 n2 c2) (ints .u8 ((hashesOf ts).take i).flatten), .snap B5 w5, ZD g8, .blk g7 24 (ints .u8 key)])
  case atStart => exact ⟨0, none, 0, 0, none, 0, 0, Nat.zero_le _, rfl, rfl, rfl, hid (by omega), hS⟩
  case round =>
    clear hS
    obtain ⟨i, A1, n1, c1, A2, n2, c2, hi, rfl, rfl, rfl, hqq, hS⟩ := hrel
    by_cases hlt : i < N
    · obtain ⟨gx, ox, X, Ax, cx, hAx, hX, CX, CLE, RXX⟩ := (HP.out _ (hS.snap 2 rfl)).at i (by rw [hN.out]; exact hlt)
      have HX := hid hX
      have HRX := hid RXX
      have HXB := hid (HTO.out X (List.mem_of_getElem? hX))
      clear hX RXX
      obtain ⟨xn, hxn⟩ : ∃ xn, Hd (X.length = xn) := ⟨_, hid rfl⟩
      rw [hxn.out] at CX CLE
      have hYL : Hd ((leafOf X).length = 32) := hid (leafOf_length X)
      have HY : Hd ((hashesOf ts)[i]? = some (leafOf X)) := hid (by unfold hashesOf; rw [List.getElem?_map, HX.out]; rfl)
      obtain ⟨Y, hY⟩ : ∃ Y, Hd (leafOf X = Y) := ⟨_, hid rfl⟩
      rw [hY.out] at HY hYL
      have hlt2 : (i : Int) < N := by omega
      have HRR : Hd (rowsOf ((hashesOf ts).take i) ++ [ints .u8 Y] = rowsOf ((hashesOf ts).take (i + 1))) := hid (by rw [take_snoc HY.out]; simp [rowsOf])
      have HBB : Hd (((hashesOf ts).take i).flatten ++ Y = ((hashesOf ts).take (i + 1)).flatten) := hid (by rw [take_snoc HY.out]; simp)
      have HRL : Hd ((rowsOf ((hashesOf ts).take i)).length = i) := hid (by simp [rowsOf, hHL.out]; omega)
      have HBL : Hd (((hashesOf ts).take i).flatten.length ≤ 32 * 600) := hid (by
        have := flat_le (ts := (hashesOf ts).take i) (b := 32) (fun X hX => Nat.le_of_eq (hH32.out X (List.mem_of_mem_take hX)).1)
        rw [List.length_take] at this
        have h2 : min i (hashesOf ts).length ≤ 600 := by omega
        exact Nat.le_trans this (Nat.mul_le_mul_left _ h2))
      generalize rowsOf ((hashesOf ts).take i) = R at *
      generalize ((hashesOf ts).take i).flatten = B at *
      subst hAx
      go_wp2_with (first
        | (go_at_call 41; refine (leafP_calls X Ax xn cx _ hxn.out CLE HRX.out HXB.out.2 (by have := HXB.out.1; have := hxn.out; omega)).mono ?_; rintro e w6 ⟨rfl, hB6⟩; replace hS := hS.below hB6; clear CX hB6; rw [hY.out])
        | (refine alloc_blk rfl 25 rfl _ rfl (ints .u8 (List.replicate 32 0)) zeroHashS ?_; intro g14 w14 hga hba hBa hsa; replace hS := hS.pushBlk hBa hba hga; clear hga hba hBa hsa)
        | (refine hs_storeW hS 0 rfl rfl 25 _ _ rfl rfl (ints .u8 Y) rfl (ints_one' _ _) _ infoHashS (by simp [hYL.out]) (by simp) _ rfl ?_; clear hS; intro w15 hS; replace hS : HS NoF w w15 (.blk g14 25 (ints .u8 Y) :: [.oa 25 32 (.slice A1 n1 c1) R, .os 5 (.slice A2 n2 c2) (ints .u8 B), .snap B5 w5, ZD g8, .blk g7 24 (ints .u8 key)]) := hS)
        | (refine hs_loadW hS 0 rfl rfl 25 _ rfl rfl 32 infoHashS (by simp [hYL.out]) _ arrHashS rfl _ rfl ?_)
        | (refine literal_agg rfl 78 25 _ rfl (ints .u8 Y) 32 rfl (by simp [hYL.out]) undLHashT infoHashS zeroHashA (by omega) (by omega) ?_; intro g16 w16 hga hba hBa hsa; replace hS := hS.pushBlk hBa hba hga; clear hga hba hBa hsa)
        | (refine hs_appA hS 2 rfl rfl _ _ 78 rfl 32 undLHashT infoHashA (by omega) rfl g16 (ints .u8 Y) rfl (hS.blk 0 rfl) (by simp [hYL.out]) (ints_one' _ _) (by rw [HRL.out]; omega) (by rw [HRL.out]; omega) _ rfl ?_
           clear hS; intro A3 n3 c3 w17 hn3 hc3 hS; clear hn3
           replace hS : HS NoF w w17 (.blk g16 25 (ints .u8 Y) :: .blk g14 25 (ints .u8 Y) :: [.oa 25 32 (.slice A3 n3 c3) (R ++ [ints .u8 Y]), .os 5 (.slice A2 n2 c2) (ints .u8 B), .snap B5 w5, ZD g8, .blk g7 24 (ints .u8 key)]) := hS)
        | (refine hs_append hS 3 rfl rfl _ _ 29 rfl 1 undBytesS infoU8S zeroU8S rfl (some ⟨g14, 0, none⟩) 32 32 rfl (ints .u8 Y) (by rw [ints_length]; exact hYL.out) (news_of_rd (Blk.rdA (hS.blk 1 rfl))) (ints_one' _ _) (by rw [ints_length]; have := HBL.out; omega) (by rw [ints_length]; have := HBL.out; omega) _ rfl ?_
           clear hS; intro A4 n4 c4 w18 hn4 hc4 hA4 hS; clear hn4; rw [← ints_append] at hS
           replace hS : HS NoF w w18 [.oa 25 32 (.slice A3 n3 c3) (R ++ [ints .u8 Y]), .os 5 (.slice A4 n4 c4) (ints .u8 (B ++ Y)), .snap B5 w5, ZD g8, .blk g7 24 (ints .u8 key)] := (hS.erase 0).erase 0)
        | fail)
      rw [HRR.out, HBB.out] at hS
      go_roundg (gk - 1)
      case measure => have := hqq.out; omega
      case rel => exact ⟨i + 1, A3, n3, c3, A4, n4, c4, by omega, rfl, rfl, by go_num, hid (by have := hqq.out; omega), hS⟩
    · obtain rfl : i = N := by omega
      have hlt2 : ¬ (i : Int) < i := by omega
      rw [List.take_of_length_le (by rw [hHL.out]; omega)] at hS
      have HBL : Hd ((hashesOf ts).flatten.length ≤ 32 * 600) := hid (by
        have := flat_le (ts := hashesOf ts) (b := 32) (fun X hX => Nat.le_of_eq (hH32.out X hX).1)
        have h2 : (hashesOf ts).length ≤ 600 := by rw [hHL.out]; omega
        exact Nat.le_trans this (Nat.mul_le_mul_left _ h2))
      have HBO : Hd ((hashesOf ts).flatten ++ ts.flatten = blobOf ts) := hid rfl
      have HB8 : Hd (∀ x ∈ blobOf ts, B8 x) := hid (B8_append (flat_B8 fun X hX => (hH32.out X hX).2) (flat_B8 fun X hX => (HTO.out X hX).2))
      have HRF : Hd (rootF i (hashesOf ts) = rootOf (hashesOf ts)) := hid (rootF_eq _ _ _ (by rw [hHL.out]; omega) (Nat.le_refl _))
      have HRT := hid (rootF_H32 i _ hH32.out)
      have HSL : Hd ((shaOf (blobOf ts)).length = 32) := hid (shaOf_length _)
      obtain ⟨D, hD⟩ : ∃ D, Hd (shaOf (blobOf ts) = D) := ⟨_, hid rfl⟩
      rw [hD.out] at HSL
      rw [HRF.out] at HRT
      obtain ⟨RT, hRT⟩ : ∃ RT, Hd (rootOf (hashesOf ts) = RT) := ⟨_, hid rfl⟩
      rw [hRT.out] at HRT HRF
      obtain ⟨hs, hhs⟩ : ∃ hs, Hd (hashesOf ts = hs) := ⟨_, hid rfl⟩
      rw [hhs.out] at hS HBL HBO hHL hH32 HRF
      go_wp2_with fail
      clear hlt
      replace hS : HS NoF w wr [.oa 25 32 (.slice A1 n1 c1) (rowsOf hs), .os 5 (.slice A2 n2 c2) (ints .u8 (hs.flatten ++ (ts.take 0).flatten)), .snap B5 w5, ZD g8, .blk g7 24 (ints .u8 key)] := by simpa using hS
      go_loopg [10, 17, 52] i (fun kq v10 v17 v52 wr => ∃ (j : Nat) (A2 : Option Addr) (n2 c2 : Nat), j ≤ i ∧ v10 = .slice A2 n2 c2 ∧ v52 = .int .i64 j ∧ Hd (kq + j = i) ∧ HS NoF w wr [.oa 25 32 (.slice A1 n1 c1) (rowsOf hs), .os 5 (.slice A2 n2 c2) (ints .u8 (hs.flatten ++ (ts.take j).flatten)), .snap B5 w5, ZD g8, .blk g7 24 (ints .u8 key)])
      case atStart => exact ⟨0, A2, n2, c2, Nat.zero_le _, rfl, rfl, hid (by omega), hS⟩
      case round =>
        clear hS
        obtain ⟨j, A2, n2, c2, hj, rfl, rfl, hqj, hS⟩ := hrel
        by_cases hlt : j < i
        · obtain ⟨gx, ox, X, Ax, cx, hAx, hX, CX, CLE, RXX⟩ := (HP.out _ (hS.snap 2 rfl)).at j (by rw [hN.out]; exact hlt)
          have HX := hid hX
          have HRX := hid RXX
          have HXB := hid (HTO.out X (List.mem_of_getElem? hX))
          clear hX RXX
          obtain ⟨xn, hxn⟩ : ∃ xn, Hd (X.length = xn) := ⟨_, hid rfl⟩
          rw [hxn.out] at CX CLE
          have hlt3 : (j : Int) < i := by omega
          have hxb : xn ≤ 80 := by have := HXB.out.1; have := hxn.out; omega
          have HBB : Hd (hs.flatten ++ (ts.take j).flatten ++ X = hs.flatten ++ (ts.take (j + 1)).flatten) := hid (by rw [take_snoc HX.out]; simp)
          have HTL : Hd ((hs.flatten ++ (ts.take j).flatten).length ≤ 32 * 600 + 80 * 600) := hid (by
            have := flat_le (ts := ts.take j) (b := 80) (fun X hX => (HTO.out X (List.mem_of_mem_take hX)).1)
            rw [List.length_take] at this
            have h2 : min j ts.length ≤ 600 := by omega
            rw [List.length_append]
            have h3 := Nat.mul_le_mul_left 80 h2
            have := HBL.out
            omega)
          generalize hs.flatten ++ (ts.take j).flatten = B at *
          subst hAx
          go_wp2_with (first
            | (refine hs_append hS 1 rfl rfl _ _ 29 rfl 1 undBytesS infoU8S zeroU8S rfl Ax xn cx rfl (ints .u8 X) (by rw [ints_length]; exact hxn.out) (news_of_rd HRX.out) (ints_one' _ _) (by rw [ints_length]; have := HTL.out; omega) (by rw [ints_length]; have := HTL.out; omega) _ rfl ?_
               clear hS CX; intro A4 n4 c4 w18 hn4 hc4 hA4 hS; clear hn4; rw [← ints_append] at hS
               replace hS : HS NoF w w18 [.oa 25 32 (.slice A1 n1 c1) (rowsOf hs), .os 5 (.slice A4 n4 c4) (ints .u8 (B ++ X)), .snap B5 w5, ZD g8, .blk g7 24 (ints .u8 key)] := hS)
            | fail)
          rw [HBB.out] at hS
          go_roundg (gk - 1)
          case measure => have := hqj.out; omega
          case rel => exact ⟨j + 1, A4, n4, c4, by omega, rfl, by go_num, hid (by have := hqj.out; omega), hS⟩
        · obtain rfl : j = i := by omega
          have hlt3 : ¬ (j : Int) < j := by omega
          rw [List.take_of_length_le (by rw [hN.out]; omega), HBO.out] at hS
          have HBZ : Hd ((blobOf ts).length ≤ 100000) := hid (by
            have h1 := flat_le (ts := ts) (b := 80) (fun X hX => (HTO.out X hX).1)
            have h2 : ts.length ≤ 600 := by rw [hN.out]; omega
            rw [← HBO.out, List.length_append]
            have h3 := Nat.mul_le_mul_left 80 h2
            have := HBL.out
            omega)
          obtain ⟨bs, hbs⟩ : ∃ bs, Hd (blobOf ts = bs) := ⟨_, hid rfl⟩
          rw [hbs.out] at hS HBZ HB8 hD
          go_wp2_with fail
          clear hlt
          replace hS : HS NoF w wr [ZD g8, .oa 25 32 (.slice A1 n1 c1) (rowsOf hs), .os 5 (.slice A2 n2 c2) (ints .u8 bs), .snap B5 w5, .blk g7 24 (ints .u8 key)] := hS.perm (List.perm_middle (l₁ := [_, _, _]))
          try go_wp2_with fail
          refine wp_region_S (F := NoF) (w0 := w) (L0 := [.oa 25 32 (.slice A1 n1 c1) (rowsOf hs), .os 5 (.slice A2 n2 c2) (ints .u8 bs), .snap B5 w5, .blk g7 24 (ints .u8 key)]) [8, 10] [11, 14]
            (fun iK u E => match iK with
              | 8 => u = .agg (ints .u8 RT).toArray ∧ E = []
              | 10 => ∃ gl, u = .slice (some ⟨gl, 0, none⟩) 1 1 ∧ E = [.os 29 (.slice (some ⟨gl, 0, none⟩) 1 1) [.slice A2 n2 c2]]
              | _ => False)
            ([ZD g8]) (by kernel_rfl) (by kernel_rfl) hS ?_
          show wpS _ _ _ _ _ _ _ _ _ _ [0, 1, 2, 3, 4, 5, 6, 7, 8, 9, 10, 11, 12, 13, 14, 15] _
          apply wpS_read (i := 0) rfl rfl ⟨_, (HS.drop2 (E := [ZD g8]) (L := [.oa 25 32 (.slice A1 n1 c1) (rowsOf hs), .os 5 (.slice A2 n2 c2) (ints .u8 bs), .snap B5 w5, .blk g7 24 (ints .u8 key)]) hS)⟩ rfl
          · intro w' hT'
            simp only [getElem_toArray, getElem_cons_zero, getElem_cons_succ]
            go_wp2_with fail
            first | exact ⟨rfl, rfl, rfl⟩ | rfl
          apply wpS_read (i := 1) rfl rfl ⟨_, (HS.drop2 (E := [ZD g8]) (L := [.oa 25 32 (.slice A1 n1 c1) (rowsOf hs), .os 5 (.slice A2 n2 c2) (ints .u8 bs), .snap B5 w5, .blk g7 24 (ints .u8 key)]) hS)⟩ rfl
          · intro w' hT'
            simp only [getElem_toArray, getElem_cons_zero, getElem_cons_succ]
            go_wp2_with fail
            first | exact ⟨rfl, rfl, rfl⟩ | rfl
          apply wpS_read (i := 2) rfl rfl ⟨_, (HS.drop2 (E := [ZD g8]) (L := [.oa 25 32 (.slice A1 n1 c1) (rowsOf hs), .os 5 (.slice A2 n2 c2) (ints .u8 bs), .snap B5 w5, .blk g7 24 (ints .u8 key)]) hS)⟩ rfl
          · intro w' hT'
            simp only [getElem_toArray, getElem_cons_zero, getElem_cons_succ]
            go_wp2_with fail
            first | exact ⟨rfl, rfl, rfl⟩ | rfl
          apply wpS_read (i := 3) rfl rfl ⟨_, (HS.drop2 (E := [ZD g8]) (L := [.oa 25 32 (.slice A1 n1 c1) (rowsOf hs), .os 5 (.slice A2 n2 c2) (ints .u8 bs), .snap B5 w5, .blk g7 24 (ints .u8 key)]) hS)⟩ rfl
          · intro w' hT'
            simp only [getElem_toArray, getElem_cons_zero, getElem_cons_succ]
            go_wp2_with (first
              | (refine hs_loadW hT' 3 rfl rfl 24 _ rfl rfl 32 infoKeyS (by simp [HK.out]) _ arrKeyS rfl _ rfl ?_)
              | (refine build_to rfl 27 _ rfl (descC id m q key RT D).toArray (by rw [Array.toList_map]; exact builtDesc _ _ _ _ _ _ HK.out HRT.out.1 HSL.out) ?_)
              | fail)
            first | exact ⟨rfl, rfl, rfl⟩ | rfl
          apply wpS_read (i := 4) rfl rfl ⟨_, (HS.drop2 (E := [ZD g8]) (L := [.oa 25 32 (.slice A1 n1 c1) (rowsOf hs), .os 5 (.slice A2 n2 c2) (ints .u8 bs), .snap B5 w5, .blk g7 24 (ints .u8 key)]) hS)⟩ rfl
          · intro w' hT'
            simp only [getElem_toArray, getElem_cons_zero, getElem_cons_succ]
            go_wp2_with fail
            first | exact ⟨rfl, rfl, rfl⟩ | rfl
          apply wpS_read (i := 5) rfl rfl ⟨_, (HS.drop2 (E := [ZD g8]) (L := [.oa 25 32 (.slice A1 n1 c1) (rowsOf hs), .os 5 (.slice A2 n2 c2) (ints .u8 bs), .snap B5 w5, .blk g7 24 (ints .u8 key)]) hS)⟩ rfl
          · intro w' hT'
            simp only [getElem_toArray, getElem_cons_zero, getElem_cons_succ]
            go_wp2_with (first
              | (refine hs_loadW hT' 3 rfl rfl 24 _ rfl rfl 32 infoKeyS (by simp [HK.out]) _ arrKeyS rfl _ rfl ?_)
              | (refine build_to rfl 27 _ rfl (descC id m q key RT D).toArray (by rw [Array.toList_map]; exact builtDesc _ _ _ _ _ _ HK.out HRT.out.1 HSL.out) ?_)
              | fail)
            first | exact ⟨rfl, rfl, rfl⟩ | rfl
          apply wpS_read (i := 6) rfl rfl ⟨_, (HS.drop2 (E := [ZD g8]) (L := [.oa 25 32 (.slice A1 n1 c1) (rowsOf hs), .os 5 (.slice A2 n2 c2) (ints .u8 bs), .snap B5 w5, .blk g7 24 (ints .u8 key)]) hS)⟩ rfl
          · intro w' hT'
            simp only [getElem_toArray, getElem_cons_zero, getElem_cons_succ]
            go_wp2_with (first
              | (refine hs_loadW hT' 3 rfl rfl 24 _ rfl rfl 32 infoKeyS (by simp [HK.out]) _ arrKeyS rfl _ rfl ?_)
              | (refine build_to rfl 27 _ rfl (descC id m q key RT D).toArray (by rw [Array.toList_map]; exact builtDesc _ _ _ _ _ _ HK.out HRT.out.1 HSL.out) ?_)
              | fail)
            first | exact ⟨rfl, rfl, rfl⟩ | rfl
          apply wpS_read (i := 7) rfl rfl ⟨_, (HS.drop2 (E := [ZD g8]) (L := [.oa 25 32 (.slice A1 n1 c1) (rowsOf hs), .os 5 (.slice A2 n2 c2) (ints .u8 bs), .snap B5 w5, .blk g7 24 (ints .u8 key)]) hS)⟩ rfl
          · intro w' hT'
            simp only [getElem_toArray, getElem_cons_zero, getElem_cons_succ]
            go_wp2_with fail
            first | exact ⟨rfl, rfl, rfl⟩ | rfl
          refine wpS_soft (i := 8) rfl rfl rfl (Nat.le_of_ble_eq_true rfl) ?_ ?_
          · intro w' hT
            simp only [getElem_toArray, getElem_cons_zero, getElem_cons_succ]
            go_wp2_with (first
              | (go_at_call 42; refine (rootP_calls j hs A1 n1 c1 _ (ownA_hrd (hT.oa 0 rfl)).2.1.symm (by rw [(ownA_hrd (hT.oa 0 rfl)).2.1, hHL.out]; omega) (ownA_hrd (hT.oa 0 rfl)).1 hH32.out (ownA_hrd (hT.oa 0 rfl)).2.2 (by rw [(ownA_hrd (hT.oa 0 rfl)).2.1, hHL.out]; omega)).mono ?_; rintro e w6 ⟨rfl, hB6⟩; rw [HRF.out])
              | fail)
            exact SoftP.mk' (.agg (ints .u8 RT).toArray) ([]) rfl (⟨rfl, rfl⟩) (hT.below hB6) (hB6) (fun _ h => by cases h)
          intro u8 E8 hK8
          obtain ⟨rfl, rfl⟩ := hK8
          simp only [Act.put, List.setIfInBounds_toArray, List.set_cons_zero, List.set_cons_succ]
          apply wpS_read (i := 9) rfl rfl ⟨_, (HS.drop2 (E := [ZD g8]) (L := [.oa 25 32 (.slice A1 n1 c1) (rowsOf hs), .os 5 (.slice A2 n2 c2) (ints .u8 bs), .snap B5 w5, .blk g7 24 (ints .u8 key)]) hS)⟩ rfl
          · intro w' hT'
            simp only [getElem_toArray, getElem_cons_zero, getElem_cons_succ]
            go_wp2_with fail
            first | exact ⟨rfl, rfl, rfl⟩ | rfl
          refine wpS_soft (i := 10) rfl rfl rfl (Nat.le_of_ble_eq_true rfl) ?_ ?_
          · intro w' hT
            simp only [getElem_toArray, getElem_cons_zero, getElem_cons_succ]
            go_wp2_with (first
              | (refine hs_one hT rfl 38 29 _ rfl undLB2 sizeBytes2 zeroBytes2 (.slice A2 n2 c2) rfl rfl _ rfl ?_; clear hT; intro gl wl hgl hBl hT)
              | fail)
            exact SoftP.mk' (.slice (some ⟨gl, 0, none⟩) 1 1) ([.os 29 (.slice (some ⟨gl, 0, none⟩) 1 1) [.slice A2 n2 c2]]) rfl (⟨gl, rfl, rfl⟩) (hT) (hBl) (fun e he j hj => by obtain rfl := List.mem_singleton.1 he; exact Nat.le_of_eq (hgl.trans (by simpa [Ent.os, Value.ownBlock] using hj)))
          intro u10 E10 hK10
          obtain ⟨gl, rfl, rfl⟩ := hK10
          simp only [Act.put, List.setIfInBounds_toArray, List.set_cons_zero, List.set_cons_succ]
          refine wpS_hard (i := 11) rfl rfl ?_
          intro w11 hT
          replace hT : HS NoF w w11 [.os 29 (.slice (some ⟨gl, 0, none⟩) 1 1) [.slice A2 n2 c2], ZD g8, .oa 25 32 (.slice A1 n1 c1) (rowsOf hs), .os 5 (.slice A2 n2 c2) (ints .u8 bs), .snap B5 w5, .blk g7 24 (ints .u8 key)] := hT
          simp only [getElem_toArray, getElem_cons_zero, getElem_cons_succ]
          go_wp2_with (first
            | (go_at_call 43; refine (shasum_calls [bs] 1 1 (some ⟨gl, 0, none⟩) _ rfl (rdL_of (os_cells (hT.os 0 rfl)) (fun i xs hi => one_listP hi rfl (by have := (hT.os 3 rfl).len.1; rw [ints_length] at this; omega) (hT.os 3 rfl).len.2.1 ((hT.os 3 rfl).rd rfl))) (fun xs hx => by rw [List.mem_singleton.1 hx]; exact HB8.out) (by simp; have := HBZ.out; omega) (by decide)).mono ?_; rintro e w6 ⟨rfl, hB6⟩; replace hT := hT.below hB6; rw [show shaOf [bs].flatten = D by rw [← hD.out]; simp])
            | fail)
          refine HardP.mk' ([.os 29 (.slice (some ⟨gl, 0, none⟩) 1 1) [.slice A2 n2 c2], ZD g8]) rfl ?_ ?_
          · exact hT
          clear hT
          apply wpS_read (i := 12) rfl rfl ⟨_, (HS.drop2 (E := [ZD g8]) (L := [.oa 25 32 (.slice A1 n1 c1) (rowsOf hs), .os 5 (.slice A2 n2 c2) (ints .u8 bs), .snap B5 w5, .blk g7 24 (ints .u8 key)]) hS)⟩ rfl
          · intro w' hT'
            simp only [getElem_toArray, getElem_cons_zero, getElem_cons_succ]
            go_wp2_with (first
              | (refine hs_loadW hT' 3 rfl rfl 24 _ rfl rfl 32 infoKeyS (by simp [HK.out]) _ arrKeyS rfl _ rfl ?_)
              | (refine build_to rfl 27 _ rfl (descC id m q key RT D).toArray (by rw [Array.toList_map]; exact builtDesc _ _ _ _ _ _ HK.out HRT.out.1 HSL.out) ?_)
              | fail)
            first | exact ⟨rfl, rfl, rfl⟩ | rfl
          apply wpS_read (i := 13) rfl rfl ⟨_, (HS.drop2 (E := [ZD g8]) (L := [.oa 25 32 (.slice A1 n1 c1) (rowsOf hs), .os 5 (.slice A2 n2 c2) (ints .u8 bs), .snap B5 w5, .blk g7 24 (ints .u8 key)]) hS)⟩ rfl
          · intro w' hT'
            simp only [getElem_toArray, getElem_cons_zero, getElem_cons_succ]
            go_wp2_with fail
            first | exact ⟨rfl, rfl, rfl⟩ | rfl
          refine wpS_hard (i := 14) rfl rfl ?_
          intro w14 hT
          replace hT : HS NoF w w14 [.os 29 (.slice (some ⟨gl, 0, none⟩) 1 1) [.slice A2 n2 c2], ZD g8, .oa 25 32 (.slice A1 n1 c1) (rowsOf hs), .os 5 (.slice A2 n2 c2) (ints .u8 bs), .snap B5 w5, .blk g7 24 (ints .u8 key)] := hT
          simp only [getElem_toArray, getElem_cons_zero, getElem_cons_succ]
          go_wp2_with (first
            | (refine hs_storeW hT 1 rfl rfl 27 _ _ rfl rfl (descC id m q key RT D) rfl (descC_one _ _ _ _ _ _) 99 sizeDesc (descC_length HK.out HRT.out.1 HSL.out) zeroD_length _ rfl ?_; clear hT; intro w9 hT)
            | fail)
          refine HardP.mk' ([.os 29 (.slice (some ⟨gl, 0, none⟩) 1 1) [.slice A2 n2 c2], .blk g8 27 (descC id m q key RT D)]) rfl ?_ ?_
          · exact hT
          clear hT
          apply wpS_read (i := 15) rfl rfl ⟨_, (HS.drop2 (E := [ZD g8]) (L := [.oa 25 32 (.slice A1 n1 c1) (rowsOf hs), .os 5 (.slice A2 n2 c2) (ints .u8 bs), .snap B5 w5, .blk g7 24 (ints .u8 key)]) hS)⟩ rfl
          · intro w' hT'
            simp only [getElem_toArray, getElem_cons_zero, getElem_cons_succ]
            go_wp2_with fail
            first | exact ⟨rfl, rfl, rfl⟩ | rfl
          refine wpS_end ?_
          intro wz hT
          try dsimp only
          clear hS
          have hS : HS NoF w wz [.blk g8 27 (descC id m q key RT D), .oa 25 32 (.slice A1 n1 c1) (rowsOf hs), .os 5 (.slice A2 n2 c2) (ints .u8 bs), .snap B5 w5, .blk g7 24 (ints .u8 key)] := hT.erase 0
          clear hT
          go_wp2_with fail
          refine bodyPost_ret (results_str2 rfl _ _ g8 _ _ (.slice A2 n2 c2) _ rfl rfl (hS.blk 0 rfl) Tryz.underlying27 (by rw [descC_length HK.out HRT.out.1 HSL.out]; exact sizeDesc)) rfl ⟨_, by rw [hts.out, hRT.out, hbs.out, hD.out], by rw [hts.out, hbs.out]; exact hS.os 2 rfl, fun k hk => (hS.own _ (List.mem_of_getElem? (i := 2) rfl) k hk).resolve_left (fun h => h), hS.bel⟩
theorem builtD0 : Tryz.prog.built 27 [] = some zeroD.toArray := by kernel_rfl
end Go.Proofs.YtlikinglgegclaaGreatDoor
/- What a blob is, plainly: where its leaves and chunks lie. -/
namespace Go.Proofs.YtlikinglgegclaaGreatDoor
open Go.RowKit Go.Cour
theorem leaves_len (ts : List (List Int)) : (hashesOf ts).flatten.length = 32 * ts.length := by
  unfold hashesOf
  induction ts with
  | nil => simp
  | cons x l ih => simp only [List.map_cons, List.flatten_cons, List.length_append, leafOf_length, ih, List.length_cons]; omega
section
variable (key xs : List Int) (q N : Nat)
theorem texts_flat (hq : 1 ≤ q) (hN : countI xs.length q = (N : Int)) : ∀ j, j ≤ N → (allTo key xs q N j).flatten.length = min (j * q) xs.length + 16 * j
  | 0, _ => by simp [allTo]
  | j + 1, h => by
    have ih := texts_flat hq hN j (by omega)
    have hp := take_piece xs q j (by omega) (by omega)
    have hl := congrArg List.length hp
    rw [List.length_append, List.length_take, List.length_take, Int.toNat_natCast] at hl
    rw [allTo_succ, List.flatten_append, List.length_append, ih]
    simp only [List.flatten_cons, List.flatten_nil, List.append_nil, ssealText, sealText_length]
    omega
theorem piece_at (hq : 1 ≤ q) (hN : countI xs.length q = (N : Int)) (i : Nat) (hi : i < N) : i * q ≤ xs.length ∧ pieceOf xs q i = (xs.drop (i * q)).take q ∧ (pieceOf xs q i).length = min q (xs.length - i * q) := by
  have h1 := lt_count xs.length q (by omega) i (by omega)
  have h2 := pieceOf_at xs q i (by omega) h1
  rw [Int.toNat_natCast] at h2
  have h3 : (i : Int) * q ≤ xs.length := by
    have a := Int.ediv_mul_le (xs.length : Int) (b := (q : Int)) (by omega)
    have b := Int.mul_le_mul_of_nonneg_right h1 (show (0 : Int) ≤ q by omega)
    omega
  refine ⟨by have : ((i * q : Nat) : Int) = (i : Int) * q := by simp
             omega, h2, ?_⟩
  rw [h2, List.length_take, List.length_drop]
/-- The blob's own length. -/
theorem blob_len (hq : 1 ≤ q) (hN : countI xs.length q = (N : Int)) : (blobOf (allTexts key xs q)).length = N * 48 + xs.length := by
  have h1 := texts_flat key xs q N hq hN N (Nat.le_refl _)
  have h2 := congrArg List.length (take_all xs q N (by omega) hN)
  rw [List.length_take, Int.toNat_natCast] at h2
  have h3 : allTexts key xs q = allTo key xs q N N := by rw [allTexts, hN]; rfl
  unfold blobOf
  rw [List.length_append, leaves_len, h3, allTo_length, h1, h2]
  omega
end
end Go.Proofs.YtlikinglgegclaaGreatDoor
/- Chapter 19's examples. -/
namespace Go.Proofs.YtlikinglgegclaaGreatDoor
open Go.RowKit Go.Cour
theorem nil_neqD (w : World) : (binOp .neq 40 .nilIface .nilIface).run Tryz.prog w = .ok (.bool false) w := by
  obtain ⟨ms, hms⟩ := undErr
  have h : ∀ d : Nat, (Op.equalIn (d + 1) 40 .nilIface .nilIface).run Tryz.prog w = .ok true w := fun d => by simp [Op.equalIn, run_underlying hms]
  simp only [binOp]
  simp [Op.equal, Op.maxDepth, h 9999]
theorem err_neqD (a : Addr) (w : World) : (binOp .neq 40 (errV a) .nilIface).run Tryz.prog w = .ok (.bool true) w := by
  obtain ⟨ms, hms⟩ := undErr
  have h : ∀ d : Nat, (Op.equalIn (d + 1) 40 (errV a) .nilIface).run Tryz.prog w = .ok false w := fun d => by simp [Op.equalIn, run_underlying hms, errV]
  simp only [binOp]
  simp [Op.equal, Op.maxDepth, h 9999]
def dzq (q : Int) : List Value := descC 0 0 q (List.replicate 32 0) (List.replicate 32 0) (List.replicate 32 0)
theorem builtDq (q : Int) : Tryz.prog.built 27 [(2, .int .u32 q)] = some (dzq q).toArray := by kernel_rfl
theorem builtK0 : Tryz.prog.built 24 [] = some (ints .u8 (List.replicate 32 0)).toArray := by kernel_rfl
set_option maxHeartbeats 2000000 in
set_option maxRecDepth 100000 in
theorem first19_calls {w : World} {P : Nat → Addr} (hE : Errs w P) : Calls Tryz.prog 4 #[] w fun e w' => e = .returned (.bool true) ∧ Below w.heap.size w w' := by
  have hS := HS.start NoF w
  have hnil := nil_nil
  have hen := fun w => err_neqD (P 1) w
  have heg := fun op t x y v => eqGuard_err op t x y (P 1) v
  have HE := hid hE
  clear hE
  obtain ⟨Z, hZ⟩ : ∃ Z : List Int, Hd (List.replicate 32 0 = Z) := ⟨_, hid rfl⟩
  have HZL : Hd (Z.length = 32) := hid (by rw [← hZ.out]; simp)
  have RZ : Hd (bytesOk Z) := hid (by
    rw [← hZ.out]
    intro i
    unfold rd
    rw [List.getD_eq_getElem?_getD, List.getElem?_replicate]
    split <;> simp)
  have HBK : Hd (Tryz.prog.built 24 [] = some (ints .u8 Z).toArray) := hid (by rw [← hZ.out]; exact builtK0)
  have hN : countI (0 : Nat) 5 = (1 : Nat) := by decide
  have HRL : Hd ((rootOf (hashesOf (allTexts Z [] 5))).length = 32) := hid (rootF_H32 _ _ (hashesOf_H32 _)).1
  have HSL : Hd ((shaOf (blobOf (allTexts Z [] 5))).length = 32) := hid (shaOf_length _)
  have HBL : Hd ((blobOf (allTexts Z [] 5)).length = 48) := hid (by rw [show (5 : Int) = ((5 : Nat) : Int) from rfl, blob_len Z [] 5 1 (by omega) hN]; rfl)
  have HMK := hid fun w => makeP_calls Z [] 1 5 none 0 0 w HZL.out RZ.out (fun i => by simp [rd]) rfl (fun _ => rfl) (Nat.le_refl _) (.inl rfl) (by omega) (by omega) (by omega)
  obtain ⟨bs, hbs⟩ : ∃ bs, Hd (blobOf (allTexts Z [] 5) = bs) := ⟨_, hid rfl⟩
  obtain ⟨RT, hRT⟩ : ∃ RT, Hd (rootOf (hashesOf (allTexts Z [] 5)) = RT) := ⟨_, hid rfl⟩
  obtain ⟨SH, hSH⟩ : ∃ SH, Hd (shaOf bs = SH) := ⟨_, hid rfl⟩
  rw [hbs.out, hSH.out] at HSL
  rw [hRT.out] at HRL
  rw [hbs.out] at HBL
  rw [hRT.out, hbs.out, hSH.out] at HMK
  have HDL : Hd ((descC 1 (0 : Nat) 5 Z RT SH).length = 99) := hid (descC_length HZL.out HRL.out HSL.out)
  have HD1 := hid (descC_one 1 (0 : Nat) 5 Z RT SH)
  have HD01 : Hd ((descC 1 (0 : Nat) 5 Z RT SH)[1]? = some (.int .u32 ((0 : Nat) : Int))) := hid rfl
  have HD02 : Hd ((descC 1 (0 : Nat) 5 Z RT SH)[2]? = some (.int .u32 ((5 : Nat) : Int))) := hid rfl
  obtain ⟨D, hD⟩ : ∃ D, D = descC 1 (0 : Nat) 5 Z RT SH := ⟨_, rfl⟩
  rw [← hD] at HDL HD1 HD01 HD02
  simp only [← hD] at HMK
  clear hD
  have HN := hid hN
  clear hN
  have HZ1 := hid zeroD_length
  have HT := hid fun w => dtotal_calls D 0 5 1 w HDL.out HD01.out HD02.out (by omega) (by omega) HN.out (by omega)
  have HB1 := hid (builtDq 1)
  have HB0 := hid builtD0
  have HC1 := hid fun w => dcheck_ok (dzq 1) 0 1 w rfl rfl (by omega) (by omega)
  have HC0 := hid fun (w : World) (hE : Errs w P) => dcheck_bad zeroD 0 0 hE rfl rfl (by omega)
  generalize dzq 1 = D1 at *
  have HZD := hid zeroDesc
  generalize zeroD = D0 at *
  go_enter Tryz.func4, Tryz.ntmps4
  go_wp2_with (first
    | (refine build_to rfl 24 _ rfl (ints .u8 Z).toArray (by rw [Array.toList_map]; exact HBK.out) ?_)
    | (go_at_call 15; refine (HMK.out _).mono ?_; rintro e w5 ⟨v5, rfl, hox, hown, hB⟩; obtain ⟨A5, c5, h5, hc5, _⟩ := hox.parts; rw [ints_length, HBL.out] at h5 hc5; subst h5; replace hS := hS.below hB; clear hox hown hB)
    | (refine alloc_blk rfl 27 rfl _ rfl D0 HZD.out ?_; intro g11 w11 hga hba hBa hsa; replace hS : HS NoF w w11 [.blk g11 27 D0] := hS.pushBlk hBa hba hga; clear hga hba hBa hsa)
    | (refine hs_storeW hS 0 rfl rfl 27 _ _ rfl rfl D rfl HD1.out 99 sizeDesc HDL.out HZ1.out _ rfl ?_; clear hS; intro w6 hS; replace hS : HS NoF w w6 [.blk g11 27 D] := hS)
    | (refine hs_loadW hS 0 rfl rfl 27 _ rfl rfl 99 sizeDesc HDL.out _ undDesc.choose_spec rfl _ rfl ?_)
    | (go_at_call 21; refine (HT.out _).mono ?_; rintro e w7 ⟨rfl, hB⟩; rw [show ((1 : Nat) : Int) * 48 + ((0 : Nat) : Int) = 48 from rfl]; replace hS := hS.below hB; clear hB)
    | (refine build_to rfl 27 _ rfl D1.toArray (by rw [Array.toList_map]; exact HB1.out) ?_)
    | (refine build_to rfl 27 _ rfl D0.toArray (by rw [Array.toList_map]; exact HB0.out) ?_)
    | fail)
  refine (HC1.out _).mono ?_
  rintro e w8 ⟨rfl, hB⟩
  replace hS := hS.below hB
  clear hB
  go_wp2_with (first
    | (refine build_to rfl 27 _ rfl D0.toArray (by rw [Array.toList_map]; exact HB0.out) ?_)
    | fail)
  refine (HC0.out _ (HE.out.below hS.bel)).mono ?_
  rintro e w9 ⟨rfl, hB⟩
  replace hS := hS.below hB
  clear hB
  go_wp2_with fail
  go_ret
  exact ⟨rfl, hS.bel⟩
end Go.Proofs.YtlikinglgegclaaGreatDoor
/- desc.Read. -/
namespace Go.Cour
open Go.RowKit
/-- A slice taken for a pointer to an array of no more elements. -/
theorem arr_ptrD {P : Program} {ops : Array Oper} {rest : List Oper} {o : Oper} {a : Act} {w : World} {Q : Exit → Act → World → Prop} (hgd : o.guard = none) (ty : TypeId) (x : Operand) (ho : o.op = .sliceToArrayPointer ty x)
    (A : Addr) (len cap n : Nat) (e : TypeId) (hx : a.eval x = .slice (some A) len cap) (hu : P.underlying ty = some (.array n e)) (hl : n ≤ len)
    (h : wpList P ops Q rest (a.put o.dst (.pointer (some A))) w) : wpList P ops Q (o :: rest) a w := by
  have hl2 : ¬ len < n := by omega
  refine wpList_plain hgd fun K hK => ?_
  unfold Oper.wp execOp
  simp [ho, hx, Instr.arrayAt, run_underlying hu, hl2]
  exact hK _ _ h
/-- Where a slice of some cells lies. -/
theorem OwnS.lies {w : World} {e : TypeId} {v : Value} {cs : List Value} (h : OwnS w e v cs) (n : Nat) (hn : cs.length = n) (hp : 0 < n) : ∃ g off c, v = .slice (some ⟨g, off, none⟩) n c ∧ ∀ j u, cs[j]? = some u → w.cell? ⟨g, off + j, none⟩ = some u := by
  subst hn
  rcases h with ⟨rfl, rfl⟩ | ⟨g, off, c, cur, rfl, hh, h1, h2, h3, h4⟩
  · simp at hp
  · exact ⟨g, off, c, rfl, fun j u hu => by rw [cell_of_row w g _ cur e (0, 0) hh]; exact h4 j u hu⟩
theorem HS.apart01 {F : Nat → Prop} {w0 w : World} {L : List Ent} {gr : Nat} {t e : TypeId} {cs ds : List Value} {A : Option Addr} {n c : Nat} (h : HS F w0 w L) (i j : Nat) (hi : L[i]? = some (.blk gr t cs)) (hj : L[j]? = some (.os e (.slice A n c) ds)) (hij : i ≠ j) : ∀ ad, A = some ad → ad.block ≠ gr := fun ad ha he => by
  subst ha
  exact h.mem.apart hi hj hij gr rfl (by simp [Ent.os, Value.ownBlock, he])
end Go.Cour
namespace Go.Proofs.YtlikinglgegclaaGreatDoor
open Go.RowKit Go.Cour
theorem sizeU32D : (Tryz.prog.info? 22).map (·.size) = some 1 := by kernel_rfl
/-- Bytes as a desc. -/
def descAt (xs : List Int) : List Value := descC (u32At xs 0) (u32At xs 4) (u32At xs 8) ((xs.drop 12).take 32) ((xs.drop 44).take 32) ((xs.drop 76).take 32)
/-- Where bytes that end too early end. -/
def shortAt (m : Nat) : Nat := if m < 4 then 0 else if m < 8 then 4 else if m < 12 then 8 else if m < 44 then 12 else if m < 76 then 44 else 76
section
variable {id m q : Int} {k r b x : List Int}
theorem descC_put3 (hk : k.length = 32) : (descC id m q k r b).take 3 ++ ints .u8 x ++ (descC id m q k r b).drop (3 + 32) = descC id m q x r b := by
  unfold descC
  simp [List.drop_append, hk]
theorem descC_put35 (hk : k.length = 32) (hr : r.length = 32) : (descC id m q k r b).take 35 ++ ints .u8 x ++ (descC id m q k r b).drop (35 + 32) = descC id m q k x b := by
  unfold descC
  simp [List.drop_append, List.take_append, hk, hr]
theorem descC_put67 (hk : k.length = 32) (hr : r.length = 32) (hb : b.length = 32) : (descC id m q k r b).take 67 ++ ints .u8 x ++ (descC id m q k r b).drop (67 + 32) = descC id m q k r x := by
  have h64 : (ints .u8 k).take 64 = ints .u8 k := List.take_of_length_le (by simp [hk])
  unfold descC
  simp [List.drop_append, List.take_append, hk, hr, hb, h64]
end
def zk : List Int := List.replicate 32 0
theorem zk_length : zk.length = 32 := rfl
set_option maxHeartbeats 2000000 in
set_option maxRecDepth 100000 in
theorem dread1_calls {F : Nat → Prop} {w0 w : World} {P : Nat → Addr} (xs : List Int) (gr gd m cb : Nat) (Ab : Option Addr) (L' : List Ent) (hE : ∀ w', HS F w0 w' [] → Errs w' P) (hxm : xs.length = m) (hok : bytesOk xs) (hcb : m ≤ cb) (hm : m ≤ 1000000)
    (hS : HS F w0 w (.blk gr 90 (rdrC (.slice Ab m cb) (0 : Nat)) :: .blk gd 27 zeroD :: .os 5 (.slice Ab m cb) (ints .u8 xs) :: L')) :
    Calls Tryz.prog 28 #[.pointer (some ⟨gr, 0, none⟩), .pointer (some ⟨gd, 0, none⟩)] w fun e w2 => (e = .returned (.tuple #[]) ∧ 108 ≤ m ∧ HS F w0 w2 (.blk gr 90 (rdrC (.slice Ab m cb) (108 : Nat)) :: .blk gd 27 (descAt xs) :: L')) ∨
      (m < 108 ∧ ∃ g, e = .panicked [{ v := thrownV g, recovered := false }] ∧ HS F w0 w2 (.blk g 94 [.int .i64 (shortAt m : Int), errV (P 2)] :: L')) := by
  have HE := hid hE
  have HXM := hid hxm
  have HOK := hid hok
  have HKL := hid zk_length
  have HZ : Hd (zeroD = descC 0 0 0 zk zk zk) := hid rfl
  rw [HZ.out] at hS
  have HD : Hd (descC (u32At xs 0) (u32At xs 4) (u32At xs 8) ((xs.drop 12).take 32) ((xs.drop 44).take 32) ((xs.drop 76).take 32) = descAt xs) := hid rfl
  generalize zk = Z at *
  clear hE hxm hok HZ
  go_enter Tryz.func28, Tryz.ntmps28
  go_wp2_with fail
  refine (ru32_any gr m cb 0 xs Ab (HE.out _ (hS.sub (List.nil_sublist _))) (hS.blk 0 rfl) HXM.out ((hS.os 2 rfl).rd rfl) HOK.out (fun ad h _ => hS.apart01 0 2 rfl rfl (by decide) ad h) (by omega) hcb hm).mono ?_
  rintro e w1 (⟨ha0, rfl, hq⟩ | ⟨hlt, g, rfl, hq⟩)
  case inr =>
    replace hS := HS.call (A := [.blk gr 90 (rdrC (.slice Ab m cb) (0 : Nat))]) hS hq (fun k h => ⟨_, List.mem_singleton.2 rfl, h⟩)
    go_wp2_with fail
    exact ⟨rfl, .inr ⟨by omega, g, rfl, by rw [show shortAt m = 0 by unfold shortAt; (repeat' split) <;> omega]; exact hS.sub (.cons_cons _ (.cons _ (.cons _ (List.Sublist.refl _))))⟩⟩
  replace hS : HS F w0 w1 (.blk gr 90 (rdrC (.slice Ab m cb) (4 : Nat)) :: .blk gd 27 (descC 0 0 0 Z Z Z) :: .os 5 (.slice Ab m cb) (ints .u8 xs) :: L') := HS.call (A := [.blk gr 90 (rdrC (.slice Ab m cb) (0 : Nat))]) hS hq (fun k h => ⟨_, List.mem_singleton.2 rfl, h⟩)
  clear hq
  go_wp2_with (first
      | (refine hs_store1 hS 1 rfl rfl 22 _ _ rfl 0 rfl (.int .u32 (u32At xs 0)) rfl rfl sizeU32D (by simp [descC]) _ rfl ?_; clear hS; intro w10 hS; replace hS : HS F w0 w10 (.blk gr 90 (rdrC (.slice Ab m cb) (4 : Nat)) :: .blk gd 27 (descC (u32At xs 0) 0 0 Z Z Z) :: .os 5 (.slice Ab m cb) (ints .u8 xs) :: L') := hS)
      | fail)
  refine (ru32_any gr m cb 4 xs Ab (HE.out _ (hS.sub (List.nil_sublist _))) (hS.blk 0 rfl) HXM.out ((hS.os 2 rfl).rd rfl) HOK.out (fun ad h _ => hS.apart01 0 2 rfl rfl (by decide) ad h) (by omega) hcb hm).mono ?_
  rintro e w2 (⟨ha1, rfl, hq⟩ | ⟨hlt, g, rfl, hq⟩)
  case inr =>
    replace hS := HS.call (A := [.blk gr 90 (rdrC (.slice Ab m cb) (4 : Nat))]) hS hq (fun k h => ⟨_, List.mem_singleton.2 rfl, h⟩)
    go_wp2_with fail
    exact ⟨rfl, .inr ⟨by omega, g, rfl, by rw [show shortAt m = 4 by unfold shortAt; (repeat' split) <;> omega]; exact hS.sub (.cons_cons _ (.cons _ (.cons _ (List.Sublist.refl _))))⟩⟩
  replace hS : HS F w0 w2 (.blk gr 90 (rdrC (.slice Ab m cb) (8 : Nat)) :: .blk gd 27 (descC (u32At xs 0) 0 0 Z Z Z) :: .os 5 (.slice Ab m cb) (ints .u8 xs) :: L') := HS.call (A := [.blk gr 90 (rdrC (.slice Ab m cb) (4 : Nat))]) hS hq (fun k h => ⟨_, List.mem_singleton.2 rfl, h⟩)
  clear hq
  go_wp2_with (first
      | (refine hs_store1 hS 1 rfl rfl 22 _ _ rfl 1 rfl (.int .u32 (u32At xs 4)) rfl rfl sizeU32D (by simp [descC]) _ rfl ?_; clear hS; intro w20 hS; replace hS : HS F w0 w20 (.blk gr 90 (rdrC (.slice Ab m cb) (8 : Nat)) :: .blk gd 27 (descC (u32At xs 0) (u32At xs 4) 0 Z Z Z) :: .os 5 (.slice Ab m cb) (ints .u8 xs) :: L') := hS)
      | fail)
  refine (ru32_any gr m cb 8 xs Ab (HE.out _ (hS.sub (List.nil_sublist _))) (hS.blk 0 rfl) HXM.out ((hS.os 2 rfl).rd rfl) HOK.out (fun ad h _ => hS.apart01 0 2 rfl rfl (by decide) ad h) (by omega) hcb hm).mono ?_
  rintro e w3 (⟨ha2, rfl, hq⟩ | ⟨hlt, g, rfl, hq⟩)
  case inr =>
    replace hS := HS.call (A := [.blk gr 90 (rdrC (.slice Ab m cb) (8 : Nat))]) hS hq (fun k h => ⟨_, List.mem_singleton.2 rfl, h⟩)
    go_wp2_with fail
    exact ⟨rfl, .inr ⟨by omega, g, rfl, by rw [show shortAt m = 8 by unfold shortAt; (repeat' split) <;> omega]; exact hS.sub (.cons_cons _ (.cons _ (.cons _ (List.Sublist.refl _))))⟩⟩
  replace hS : HS F w0 w3 (.blk gr 90 (rdrC (.slice Ab m cb) (12 : Nat)) :: .blk gd 27 (descC (u32At xs 0) (u32At xs 4) 0 Z Z Z) :: .os 5 (.slice Ab m cb) (ints .u8 xs) :: L') := HS.call (A := [.blk gr 90 (rdrC (.slice Ab m cb) (8 : Nat))]) hS hq (fun k h => ⟨_, List.mem_singleton.2 rfl, h⟩)
  clear hq
  go_wp2_with (first
      | (refine hs_store1 hS 1 rfl rfl 22 _ _ rfl 2 rfl (.int .u32 (u32At xs 8)) rfl rfl sizeU32D (by simp [descC]) _ rfl ?_; clear hS; intro w30 hS; replace hS : HS F w0 w30 (.blk gr 90 (rdrC (.slice Ab m cb) (12 : Nat)) :: .blk gd 27 (descC (u32At xs 0) (u32At xs 4) (u32At xs 8) Z Z Z) :: .os 5 (.slice Ab m cb) (ints .u8 xs) :: L') := hS)
      | fail)
  refine (raw_any gr m cb 12 32 xs Ab (HE.out _ (hS.sub (List.nil_sublist _))) (hS.blk 0 rfl) HXM.out ((hS.os 2 rfl).rd rfl) (hS.os 2 rfl).len.2.2.2 (fun ad h _ => hS.apart01 0 2 rfl rfl (by decide) ad h) (by omega) hcb hm (by omega)).mono ?_
  rintro e w4 (⟨ha3, v, rfl, hq⟩ | ⟨hlt, g, rfl, hq⟩)
  case inr =>
    replace hS := HS.call (A := [.blk gr 90 (rdrC (.slice Ab m cb) (12 : Nat))]) hS hq (fun k h => ⟨_, List.mem_singleton.2 rfl, h⟩)
    go_wp2_with fail
    exact ⟨rfl, .inr ⟨by omega, g, rfl, by rw [show shortAt m = 12 by unfold shortAt; (repeat' split) <;> omega]; exact hS.sub (.cons_cons _ (.cons _ (.cons _ (List.Sublist.refl _))))⟩⟩
  obtain ⟨gv, ov, cv, rfl, hcv⟩ := (hq.os 0 rfl).lies 32 (by rw [ints_length, List.length_take, List.length_drop, HXM.out]; omega) (by omega)
  replace hS : HS F w0 w4 (.os 5 (.slice (some ⟨gv, ov, none⟩) 32 cv) (ints .u8 ((xs.drop 12).take 32)) :: .blk gr 90 (rdrC (.slice Ab m cb) (44 : Nat)) :: .blk gd 27 (descC (u32At xs 0) (u32At xs 4) (u32At xs 8) Z Z Z) :: .os 5 (.slice Ab m cb) (ints .u8 xs) :: L') := HS.call (A := [.blk gr 90 (rdrC (.slice Ab m cb) (12 : Nat))]) hS hq (fun k h => ⟨_, List.mem_singleton.2 rfl, h⟩)
  clear hq
  have HL3 : Hd (((xs.drop 12).take 32).length = 32) := hid (by rw [List.length_take, List.length_drop, HXM.out]; omega)
  go_wp2_with (first
      | (refine arr_ptrD rfl 24 _ rfl ⟨gv, ov, none⟩ 32 cv 32 5 rfl arrKeyD (by omega) ?_)
      | (refine load_in rfl 24 _ rfl gv ov rfl (ints .u8 ((xs.drop 12).take 32)) hcv 32 5 arrKeyD (by rw [ints_length]; exact HL3.out) infoKeyD ?_)
      | (refine hs_storeN hS 2 rfl rfl 24 _ _ rfl 3 rfl (ints .u8 ((xs.drop 12).take 32)) rfl (ints_one' _ _) 32 infoKeyD (by rw [ints_length]; exact HL3.out) (by rw [descC_length HKL.out HKL.out HKL.out]; decide) _ rfl ?_; clear hS hcv; intro w40 hS; rw [descC_put3 HKL.out] at hS; replace hS : HS F w0 w40 (.blk gr 90 (rdrC (.slice Ab m cb) (44 : Nat)) :: .blk gd 27 (descC (u32At xs 0) (u32At xs 4) (u32At xs 8) ((xs.drop 12).take 32) Z Z) :: .os 5 (.slice Ab m cb) (ints .u8 xs) :: L') := hS.sub (.cons _ (List.Sublist.refl _)))
      | fail)
  refine (raw_any gr m cb 44 32 xs Ab (HE.out _ (hS.sub (List.nil_sublist _))) (hS.blk 0 rfl) HXM.out ((hS.os 2 rfl).rd rfl) (hS.os 2 rfl).len.2.2.2 (fun ad h _ => hS.apart01 0 2 rfl rfl (by decide) ad h) (by omega) hcb hm (by omega)).mono ?_
  rintro e w5 (⟨ha4, v, rfl, hq⟩ | ⟨hlt, g, rfl, hq⟩)
  case inr =>
    replace hS := HS.call (A := [.blk gr 90 (rdrC (.slice Ab m cb) (44 : Nat))]) hS hq (fun k h => ⟨_, List.mem_singleton.2 rfl, h⟩)
    go_wp2_with fail
    exact ⟨rfl, .inr ⟨by omega, g, rfl, by rw [show shortAt m = 44 by unfold shortAt; (repeat' split) <;> omega]; exact hS.sub (.cons_cons _ (.cons _ (.cons _ (List.Sublist.refl _))))⟩⟩
  obtain ⟨gv, ov, cv, rfl, hcv⟩ := (hq.os 0 rfl).lies 32 (by rw [ints_length, List.length_take, List.length_drop, HXM.out]; omega) (by omega)
  replace hS : HS F w0 w5 (.os 5 (.slice (some ⟨gv, ov, none⟩) 32 cv) (ints .u8 ((xs.drop 44).take 32)) :: .blk gr 90 (rdrC (.slice Ab m cb) (76 : Nat)) :: .blk gd 27 (descC (u32At xs 0) (u32At xs 4) (u32At xs 8) ((xs.drop 12).take 32) Z Z) :: .os 5 (.slice Ab m cb) (ints .u8 xs) :: L') := HS.call (A := [.blk gr 90 (rdrC (.slice Ab m cb) (44 : Nat))]) hS hq (fun k h => ⟨_, List.mem_singleton.2 rfl, h⟩)
  clear hq
  have HL4 : Hd (((xs.drop 44).take 32).length = 32) := hid (by rw [List.length_take, List.length_drop, HXM.out]; omega)
  go_wp2_with (first
      | (refine arr_ptrD rfl 25 _ rfl ⟨gv, ov, none⟩ 32 cv 32 5 rfl arrHashD (by omega) ?_)
      | (refine load_in rfl 25 _ rfl gv ov rfl (ints .u8 ((xs.drop 44).take 32)) hcv 32 5 arrHashD (by rw [ints_length]; exact HL4.out) infoHashD ?_)
      | (refine hs_storeN hS 2 rfl rfl 25 _ _ rfl 35 rfl (ints .u8 ((xs.drop 44).take 32)) rfl (ints_one' _ _) 32 infoHashD (by rw [ints_length]; exact HL4.out) (by rw [descC_length HL3.out HKL.out HKL.out]; decide) _ rfl ?_; clear hS hcv; intro w50 hS; rw [descC_put35 HL3.out HKL.out] at hS; replace hS : HS F w0 w50 (.blk gr 90 (rdrC (.slice Ab m cb) (76 : Nat)) :: .blk gd 27 (descC (u32At xs 0) (u32At xs 4) (u32At xs 8) ((xs.drop 12).take 32) ((xs.drop 44).take 32) Z) :: .os 5 (.slice Ab m cb) (ints .u8 xs) :: L') := hS.sub (.cons _ (List.Sublist.refl _)))
      | fail)
  refine (raw_any gr m cb 76 32 xs Ab (HE.out _ (hS.sub (List.nil_sublist _))) (hS.blk 0 rfl) HXM.out ((hS.os 2 rfl).rd rfl) (hS.os 2 rfl).len.2.2.2 (fun ad h _ => hS.apart01 0 2 rfl rfl (by decide) ad h) (by omega) hcb hm (by omega)).mono ?_
  rintro e w6 (⟨ha5, v, rfl, hq⟩ | ⟨hlt, g, rfl, hq⟩)
  case inr =>
    replace hS := HS.call (A := [.blk gr 90 (rdrC (.slice Ab m cb) (76 : Nat))]) hS hq (fun k h => ⟨_, List.mem_singleton.2 rfl, h⟩)
    go_wp2_with fail
    exact ⟨rfl, .inr ⟨by omega, g, rfl, by rw [show shortAt m = 76 by unfold shortAt; (repeat' split) <;> omega]; exact hS.sub (.cons_cons _ (.cons _ (.cons _ (List.Sublist.refl _))))⟩⟩
  obtain ⟨gv, ov, cv, rfl, hcv⟩ := (hq.os 0 rfl).lies 32 (by rw [ints_length, List.length_take, List.length_drop, HXM.out]; omega) (by omega)
  replace hS : HS F w0 w6 (.os 5 (.slice (some ⟨gv, ov, none⟩) 32 cv) (ints .u8 ((xs.drop 76).take 32)) :: .blk gr 90 (rdrC (.slice Ab m cb) (108 : Nat)) :: .blk gd 27 (descC (u32At xs 0) (u32At xs 4) (u32At xs 8) ((xs.drop 12).take 32) ((xs.drop 44).take 32) Z) :: .os 5 (.slice Ab m cb) (ints .u8 xs) :: L') := HS.call (A := [.blk gr 90 (rdrC (.slice Ab m cb) (76 : Nat))]) hS hq (fun k h => ⟨_, List.mem_singleton.2 rfl, h⟩)
  clear hq
  have HL5 : Hd (((xs.drop 76).take 32).length = 32) := hid (by rw [List.length_take, List.length_drop, HXM.out]; omega)
  go_wp2_with (first
      | (refine arr_ptrD rfl 25 _ rfl ⟨gv, ov, none⟩ 32 cv 32 5 rfl arrHashD (by omega) ?_)
      | (refine load_in rfl 25 _ rfl gv ov rfl (ints .u8 ((xs.drop 76).take 32)) hcv 32 5 arrHashD (by rw [ints_length]; exact HL5.out) infoHashD ?_)
      | (refine hs_storeN hS 2 rfl rfl 25 _ _ rfl 67 rfl (ints .u8 ((xs.drop 76).take 32)) rfl (ints_one' _ _) 32 infoHashD (by rw [ints_length]; exact HL5.out) (by rw [descC_length HL3.out HL4.out HKL.out]; decide) _ rfl ?_; clear hS hcv; intro w60 hS; rw [descC_put67 HL3.out HL4.out HKL.out] at hS; replace hS : HS F w0 w60 (.blk gr 90 (rdrC (.slice Ab m cb) (108 : Nat)) :: .blk gd 27 (descC (u32At xs 0) (u32At xs 4) (u32At xs 8) ((xs.drop 12).take 32) ((xs.drop 44).take 32) ((xs.drop 76).take 32)) :: .os 5 (.slice Ab m cb) (ints .u8 xs) :: L') := hS.sub (.cons _ (List.Sublist.refl _)))
      | fail)
  rw [HD.out] at hS
  exact bodyPost_void rfl rfl (.inl ⟨rfl, hS.sub (.cons_cons _ (.cons_cons _ (.cons _ (List.Sublist.refl _))))⟩)
theorem u32At_nonneg (xs : List Int) (a : Nat) : 0 ≤ u32At xs a := (word4_bound _ _ _ _).1
/-- An error as a thing in memory. -/
def tellsE (P : Nat → Addr) (v : Value) (c : Int) (p : Bool) (n : Int) : Ent where
  F := fun k => v = .iface 92 (.pointer (some ⟨k, 0, none⟩))
  p := fun w => Tells w P v c p n
  lt := fun h k hk => by
    subst hk
    rcases h with ⟨h, _⟩ | ⟨j, _, h, _⟩ | ⟨j, g, _, h, hb, _⟩
    · cases h
    · simp [errV] at h
    · simp only [Value.iface.injEq, Value.pointer.injEq, Option.some.injEq, Addr.mk.injEq, true_and, and_true] at h
      subst h; exact hb.lt
  kept := fun h hk => by
    rcases h with h | h | ⟨j, g, hj, rfl, hb, h⟩
    · exact .inl h
    · exact .inr (.inl h)
    · exact .inr (.inr ⟨j, g, hj, rfl, (hk g rfl).trans hb, h⟩)
theorem HS_tells {F : Nat → Prop} {w0 w : World} {L : List Ent} {P : Nat → Addr} {v : Value} {c n : Int} {p : Bool} (h : HS F w0 w L) (i : Nat) (hi : L[i]? = some (tellsE P v c p n)) : Tells w P v c p n := h.get hi
theorem HS_addNil {F : Nat → Prop} {w0 w : World} {L : List Ent} {P : Nat → Addr} (h : HS F w0 w L) : HS F w0 w (tellsE P .nilIface 0 false 0 :: L) :=
  h.take _ Tells.nil (fun k hk => by cases hk) (fun f hf k hk => by cases hk)
theorem HS_addErr {F : Nat → Prop} {w0 w : World} {L : List Ent} {P : Nat → Addr} (k : Nat) (hk : k < 19) (h : HS F w0 w L) : HS F w0 w (tellsE P (errV (P k)) (101 + (k : Int)) false 0 :: L) :=
  h.take _ (Tells.err k hk) (fun k hk => by simp [tellsE, errV] at hk) (fun f hf k hk => by simp [tellsE, errV] at hk)
theorem HS_toTells {F : Nat → Prop} {w0 w : World} {L : List Ent} {P : Nat → Addr} {g k : Nat} {n : Int} (hk : k < 19) (h : HS F w0 w (.blk g 94 [.int .i64 n, errV (P k)] :: L)) : HS F w0 w (tellsE P (.iface 92 (.pointer (some ⟨g, 0, none⟩))) (101 + (k : Int)) true n :: L) :=
  have e : ∀ j, (tellsE P (.iface 92 (.pointer (some ⟨g, 0, none⟩))) (101 + (k : Int)) true n).F j → j = g := fun j hj => by
    have hj : Value.iface 92 (.pointer (some ⟨g, 0, none⟩)) = .iface 92 (.pointer (some ⟨j, 0, none⟩)) := hj
    simp only [Value.iface.injEq, Value.pointer.injEq, Option.some.injEq, Addr.mk.injEq, true_and, and_true] at hj
    exact hj.symm
  (h.erase 0).take _ (Tells.at_ hk (h.blk 0 rfl)) (fun j hj => h.own _ (List.mem_cons_self ..) j (e j hj)) (fun f hf j hj hfj => h.mem.2.1 f hf j (e j hj) hfj)
/-- What bytes are as a desc; or the fault. -/
def readD (xs : List Int) : List Value × Int × Bool × Int :=
  if xs.length < 108 then (zeroD, 103, true, (shortAt xs.length : Int)) else if 108 < xs.length then (zeroD, 104, true, 108)
  else if 600 < u32At xs 4 ∨ u32At xs 8 < 1 ∨ 64 < u32At xs 8 then (zeroD, 102, false, 0) else (descAt xs, 0, false, 0)
theorem nil_eqlR (w : World) : (binOp .eql 40 .nilIface .nilIface).run Tryz.prog w = .ok (.bool true) w := nil_nil w
theorem descAt_length {xs : List Int} (h : xs.length = 108) : (descAt xs).length = 99 := descC_length (by simp [h]) (by simp [h]) (by simp [h])
set_option maxHeartbeats 4000000 in
set_option maxRecDepth 100000 in
theorem dread_calls (xs : List Int) (A : Option Addr) (m c : Nat) {w : World} {P : Nat → Addr} (hE : Errs w P) (hxm : xs.length = m) (hok : bytesOk xs) (hA : A = none → c = 0) (hr : Rd w A .u8 xs) (hm : m ≤ 1000000) :
    Calls Tryz.prog 9 #[.slice A m c] w fun e w' => ∃ er, e = .returned (.tuple #[.agg (readD xs).1.toArray, er]) ∧ HS NoF w w' [tellsE P er (readD xs).2.1 (readD xs).2.2.1 (readD xs).2.2.2] := by
  obtain ⟨fs, hfs⟩ := undDesc
  have hS := HS.start NoF w
  have HE := hid hE
  have HXM := hid hxm
  have HOK := hid hok
  have HA := hid hA
  have HR := hid hr
  have HZD := hid zeroDesc
  have HZL := hid zeroD_length
  have HZO : Hd (∀ v ∈ zeroD, v.oneCell' = true) := hid (descC_one 0 0 0 (List.replicate 32 0) (List.replicate 32 0) (List.replicate 32 0))
  have HB0 := hid builtD0
  have hmf : ∀ (fn : Fn) (first cap : Array Value) (w : World), (Instr.makeFunc fn first cap).run Tryz.prog w = .ok (.func fn first cap) w := fun _ _ _ _ => rfl
  have hnn := nil_neqC
  have hee := nil_eqlR
  clear hE hxm hok hA hr
  obtain ⟨D0, hD0⟩ : ∃ D0, Hd (zeroD = D0) := ⟨_, hid rfl⟩
  rw [hD0.out] at HZD HZL HZO HB0
  obtain ⟨rD, rc, rp, rn, hrd⟩ : ∃ a b c d, Hd (readD xs = (a, b, c, d)) := ⟨_, _, _, _, hid rfl⟩
  rw [hrd.out]
  dsimp only
  go_enter Tryz.func9, Tryz.ntmps9
  go_wp2_with (first
    | (have _ := mk0; refine alloc_blk rfl 27 rfl _ rfl D0 HZD.out ?_; intro gd w2 hga hba hBa hsa; replace hS : HS NoF w w2 [.blk gd 27 D0, .blk gR 27 D0] := hS.pushBlk hBa hba hga; clear hga hba hBa hsa mk0)
    | (refine alloc_blk rfl 27 rfl _ rfl D0 HZD.out ?_; intro gR w1 hga hba hBa hsa; replace hS : HS NoF w w1 [.blk gR 27 D0] := hS.pushBlk hBa hba hga; clear hga hba hBa hsa; have mk0 : True := trivial)
    | fail)
  have hgd : w.heap.size ≤ gd := by
    rcases hS.own _ (List.mem_cons_self ..) gd rfl with h | h
    · exact h.elim
    · exact h
  have hS2 : HS (fun k => k = gd) w2 w2 [.blk gd 27 D0] := (HS.start _ w2).take _ (hS.blk 0 rfl) (fun k hk => .inl hk) (fun f hf => by cases hf)
  refine (cread_gen (F := fun k => k = gd) (w0 := w2) (L0 := [.blk gd 27 D0]) (P := P) 28 #[.pointer (some ⟨gd, 0, none⟩)] xs A m c (fun a L => a = 108 ∧ 108 ≤ m ∧ L = [.blk gd 27 (descAt xs)]) (fun p k L => p = (shortAt m : Int) ∧ k = 2 ∧ m < 108 ∧ L = [])
    (fun args w => by simp [go_sem]) (fun w' h => HE.out.below (Upd.below_on hS.bel hS.size h.upd (fun j hj => by subst hj; exact hgd))) hS2 HXM.out HA.out (hS.oldRd HR.out (fun _ _ _ h => h)) hm ?_).mono ?_
  · intro gr Ab cb L' w1' hcb hB h
    rw [← hD0.out] at h
    refine (dread1_calls xs gr gd m cb Ab L' (fun w' h => HE.out.below (Upd.below_on hS.bel hS.size h.upd (fun j hj => by subst hj; exact hgd))) HXM.out HOK.out hcb hm (h.perm (List.Perm.swap _ _ _))).mono ?_
    rintro e w2' (⟨rfl, ha, h⟩ | ⟨hlt, g, rfl, h⟩)
    · exact .inl ⟨108, _, rfl, ha, ⟨rfl, ha, rfl⟩, h.perm (List.Perm.swap _ _ _)⟩
    · exact .inr ⟨g, _, 2, [], rfl, ⟨rfl, rfl, hlt, rfl⟩, h⟩
  · have hG : ∀ k, (fun k => k = gd) k → ∃ e ∈ [Ent.blk gd 27 D0], e.F k := fun k h => ⟨_, List.mem_singleton.2 rfl, h⟩
    rintro e w5 (⟨_, rfl, ⟨hm8, hm9, rfl⟩, hq⟩ | ⟨a, g, _, hlt, ⟨rfl, _, rfl⟩, rfl, hq⟩ | ⟨g, p, k, _, rfl, ⟨rfl, rfl, hlt, rfl⟩, hq⟩)
    · replace hS : HS NoF w w5 [.blk gd 27 (descAt xs), .blk gR 27 D0] := HS.call (A := [.blk gd 27 D0]) hS hq hG
      clear hq hG hS2
      have HDL := hid (descAt_length (by rw [HXM.out, hm8] : xs.length = 108))
      have HD1 : Hd (∀ v ∈ descAt xs, v.oneCell' = true) := hid (descC_one _ _ _ _ _ _)
      obtain ⟨sz, hsz⟩ : ∃ n : Nat, u32At xs 4 = (n : Int) := ⟨(u32At xs 4).toNat, by have := u32At_nonneg xs 4; omega⟩
      obtain ⟨ch, hch⟩ : ∃ n : Nat, u32At xs 8 = (n : Int) := ⟨(u32At xs 8).toNat, by have := u32At_nonneg xs 8; omega⟩
      have HI1 : Hd ((descAt xs)[1]? = some (.int .u32 (sz : Int))) := hid (by rw [← hsz]; rfl)
      have HI2 : Hd ((descAt xs)[2]? = some (.int .u32 (ch : Int))) := hid (by rw [← hch]; rfl)
      by_cases hbad : 600 < sz ∨ ch < 1 ∨ 64 < ch
      · have HRD : (rD, rc, rp, rn) = (D0, (102 : Int), false, (0 : Int)) := hrd.out.symm.trans (by rw [← hD0.out]; unfold readD; rw [HXM.out, hsz, hch, if_neg (by omega), if_neg (by omega), if_pos (by omega)])
        clear hsz hch
        have HC := hid fun (w : World) (hE : Errs w P) => dcheck_bad (descAt xs) sz ch hE HI1.out HI2.out hbad
        have hen := fun w => err_neqD (P 1) w
        have heg := fun op t x y v => eqGuard_err op t x y (P 1) v
        clear hbad
        simp only [Prod.mk.injEq] at HRD
        obtain ⟨rfl, rfl, rfl, rfl⟩ := HRD
        clear hrd
        generalize descAt xs = D at *
        go_wp2_with (first
            | (refine hs_loadW hS 0 rfl rfl 27 _ rfl rfl 99 sizeDesc HDL.out _ hfs rfl _ rfl ?_)
            | (go_at_call 17; refine (HC.out _ (HE.out.below hS.bel)).mono ?_; rintro e w7 ⟨rfl, hB⟩; replace hS := hS.below hB; clear hB)
            | (refine build_to rfl 27 _ rfl rD.toArray (by rw [Array.toList_map]; exact HB0.out) ?_)
            | (refine hs_storeW hS 1 rfl rfl 27 _ _ rfl rfl rD rfl HZO.out 99 sizeDesc HZL.out HZL.out _ rfl ?_; clear hS; intro w8 hS; replace hS : HS NoF w w8 [.blk gd 27 D, .blk gR 27 rD] := hS)
            | fail)
        refine bodyPost_ret (results_str2 rfl _ _ gR _ rD _ fs rfl rfl (hS.blk 1 rfl) hfs (by rw [HZL.out]; exact sizeDesc)) rfl ?_
        exact ⟨_, rfl, HS_addErr 1 (by omega) (hS.sub (List.nil_sublist _))⟩
      · have HRD : (rD, rc, rp, rn) = (descAt xs, (0 : Int), false, (0 : Int)) := hrd.out.symm.trans (by unfold readD; rw [HXM.out, hsz, hch, if_neg (by omega), if_neg (by omega), if_neg (by omega)])
        clear hsz hch
        have HC := hid fun (w : World) => dcheck_ok (descAt xs) sz ch w HI1.out HI2.out (by omega) (by omega)
        clear hbad
        simp only [Prod.mk.injEq] at HRD
        obtain ⟨h1, rfl, rfl, rfl⟩ := HRD
        clear hrd
        rw [← h1] at hS HDL HD1 HC
        clear HI1 HI2 h1
        go_wp2_with (first
            | (refine hs_loadW hS 0 rfl rfl 27 _ rfl rfl 99 sizeDesc HDL.out _ hfs rfl _ rfl ?_)
            | (go_at_call 17; refine (HC.out _).mono ?_; rintro e w7 ⟨rfl, hB⟩; replace hS := hS.below hB; clear hB)
            | (refine hs_storeW hS 1 rfl rfl 27 _ _ rfl rfl rD rfl HD1.out 99 sizeDesc HDL.out HZL.out _ rfl ?_; clear hS; intro w8 hS; replace hS : HS NoF w w8 [.blk gd 27 rD, .blk gR 27 rD] := hS)
            | fail)
        refine bodyPost_ret (results_str2 rfl _ _ gR _ rD _ fs rfl rfl (hS.blk 1 rfl) hfs (by rw [HDL.out]; exact sizeDesc)) rfl ?_
        exact ⟨_, rfl, HS_addNil (hS.sub (List.nil_sublist _))⟩
    · replace hS : HS NoF w w5 [.blk g 94 [.int .i64 108, errV (P 3)], .blk gR 27 D0] := (HS.call (A := [.blk gd 27 D0]) hS hq hG).erase 1
      clear hq hG hS2
      have HRD : (rD, rc, rp, rn) = (D0, (104 : Int), true, (108 : Int)) := hrd.out.symm.trans (by rw [← hD0.out]; unfold readD; rw [HXM.out, if_neg (by omega), if_pos (by omega)])
      simp only [Prod.mk.injEq] at HRD
      obtain ⟨rfl, rfl, rfl, rfl⟩ := HRD
      clear hrd
      have hane := at_neqC g
      have haee := at_eqlN g
      go_wp2_with (first
          | (refine build_to rfl 27 _ rfl rD.toArray (by rw [Array.toList_map]; exact HB0.out) ?_)
          | (refine hs_storeW hS 1 rfl rfl 27 _ _ rfl rfl rD rfl HZO.out 99 sizeDesc HZL.out HZL.out _ rfl ?_; clear hS; intro w8 hS; replace hS : HS NoF w w8 _ := hS)
          | fail)
      refine bodyPost_ret (results_str2 rfl _ _ gR _ rD _ fs rfl rfl (hS.blk 1 rfl) hfs (by rw [HZL.out]; exact sizeDesc)) rfl ?_
      exact ⟨_, rfl, HS_toTells (k := 3) (by omega) (hS.erase 1)⟩
    · replace hS : HS NoF w w5 [.blk g 94 [.int .i64 (shortAt m : Int), errV (P 2)], .blk gR 27 D0] := HS.call (A := [.blk gd 27 D0]) hS hq hG
      clear hq hG hS2
      have HRD : (rD, rc, rp, rn) = (D0, (103 : Int), true, (shortAt m : Int)) := hrd.out.symm.trans (by rw [← hD0.out]; unfold readD; rw [HXM.out, if_pos (by omega)])
      simp only [Prod.mk.injEq] at HRD
      obtain ⟨rfl, rfl, rfl, rfl⟩ := HRD
      clear hrd
      have hane := at_neqC g
      have haee := at_eqlN g
      go_wp2_with (first
          | (refine build_to rfl 27 _ rfl rD.toArray (by rw [Array.toList_map]; exact HB0.out) ?_)
          | (refine hs_storeW hS 1 rfl rfl 27 _ _ rfl rfl rD rfl HZO.out 99 sizeDesc HZL.out HZL.out _ rfl ?_; clear hS; intro w8 hS; replace hS : HS NoF w w8 _ := hS)
          | fail)
      refine bodyPost_ret (results_str2 rfl _ _ gR _ rD _ fs rfl rfl (hS.blk 1 rfl) hfs (by rw [HZL.out]; exact sizeDesc)) rfl ?_
      exact ⟨_, rfl, HS_toTells (k := 2) (by omega) (hS.erase 1)⟩
end Go.Proofs.YtlikinglgegclaaGreatDoor
/- The reference's reader: U32, Key, Over. -/
namespace Go.Proofs.YtlikinglgegclaaGreatDoor
open Go.RowKit Go.Cour
/-- A number, or zero. -/
def rU32 (xs : List Int) (s : RSt) : Int := if s.c = 0 ∧ s.a + 4 ≤ xs.length then u32At xs s.a else 0
def rKey (xs : List Int) (s : RSt) : List Int := if s.c = 0 ∧ s.a + 32 ≤ xs.length then (xs.drop s.a).take 32 else List.replicate 32 0
/-- The fault in the end. -/
def rOver (m : Nat) (s : RSt) : Int × Bool × Int := if s.c = 0 ∧ s.a < m then (104, true, (s.a : Int)) else (s.c, s.p, s.n)
set_option maxHeartbeats 1000000 in
set_option maxRecDepth 100000 in
theorem get32_calls (g o c : Nat) (b0 b1 b2 b3 : Int) (w : World)
    (h0 : w.cell? ⟨g, o, none⟩ = some (.int .u8 b0)) (h1 : w.cell? ⟨g, o + 1, none⟩ = some (.int .u8 b1)) (h2 : w.cell? ⟨g, o + 2, none⟩ = some (.int .u8 b2)) (h3 : w.cell? ⟨g, o + 3, none⟩ = some (.int .u8 b3))
    (r0 : 0 ≤ b0 ∧ b0 < 256) (r1 : 0 ≤ b1 ∧ b1 < 256) (r2 : 0 ≤ b2 ∧ b2 < 256) (r3 : 0 ≤ b3 ∧ b3 < 256) :
    Calls Tryz.prog 58 #[.slice (some ⟨g, o, none⟩) 4 c] w fun e w' => e = .returned (.int .u32 (word4 b0 b1 b2 b3)) ∧ Below w.heap.size w w' := by
  have hB := Below.refl w.heap.size w
  go_enter Tryz.func58, Tryz.ntmps58
  go_wp2
  go_quiet (fail)
  go_wp2
  go_ret
  exact ⟨rfl, by first | exact below_drewN hB _ | exact hB⟩
set_option maxHeartbeats 1000000 in
set_option maxRecDepth 100000 in
theorem r9u32_calls (gr m c : Nat) (xs : List Int) (A : Option Addr) (s : RSt) (w : World) (hb : Blk w gr 72 (r9C (.slice A m c) s)) (hx : xs.length = m) (hok : bytesOk xs) (hr : Rd w A .u8 xs) (hA : A = none → c = 0) (hsep : ∀ ad, A = some ad → xs ≠ [] → ad.block ≠ gr) (ha : s.a ≤ m) (hc : m ≤ c) (hm : m ≤ 1000000) :
    Calls Tryz.prog 31 #[.pointer (some ⟨gr, 0, none⟩)] w fun e w' => e = .returned (.int .u32 (rU32 xs s)) ∧ HS (fun k => k = gr) w w' [.blk gr 72 (r9C (.slice A m c) (s.step m 4))] := by
  have HX := hid hx
  have HRW := hid fun w' (hb : Blk w' gr 72 (r9C (.slice A m c) s)) (hr : Rd w' A .u8 xs) => r9raw_calls gr m c 4 xs A s w' hb hx hr hA hsep ha hc hm (by omega)
  have HB := hid hb
  have HR := hid hr
  by_cases hok2 : s.c = 0 ∧ s.a + 4 ≤ xs.length
  · have hv : rU32 xs s = u32At xs s.a := by unfold rU32; rw [if_pos hok2]
    have hg : rGot xs s 4 = (xs.drop s.a).take 4 := by unfold rGot; rw [if_pos hok2]
    rw [hv]
    simp only [hg] at HRW
    have HL : Hd (((xs.drop s.a).take 4).length = 4) := hid (by rw [List.length_take, List.length_drop]; omega)
    have HV : Hd (∀ j, j < 4 → rd ((xs.drop s.a).take 4) j = rd xs (s.a + j)) := hid (fun j hj => by rw [rd_take _ _ _ hj, rd_drop])
    clear hb hr hx hA hsep hv hg hok2
    go_enter Tryz.func31, Tryz.ntmps31
    go_wp2_with fail
    refine (HRW.out _ HB.out HR.out).mono ?_
    rintro e w2 ⟨v, rfl, hS⟩
    obtain ⟨gv, ov, cv, rfl, hcv⟩ := (hS.os 0 rfl).lies 4 (by rw [ints_length]; exact HL.out) (by omega)
    have k0 := hcv 0 _ (ints_get _ _ 0 (by rw [HL.out]; decide))
    have k1 := hcv 1 _ (ints_get _ _ 1 (by rw [HL.out]; decide))
    have k2 := hcv 2 _ (ints_get _ _ 2 (by rw [HL.out]; decide))
    have k3 := hcv 3 _ (ints_get _ _ 3 (by rw [HL.out]; decide))
    rw [HV.out _ (by omega)] at k0 k1 k2 k3
    clear hcv
    go_wp2_with fail
    refine (get32_calls gv ov cv _ _ _ _ _ k0 k1 k2 k3 (hok _) (hok _) (hok _) (hok _)).mono ?_
    rintro e w3 ⟨rfl, hB⟩
    replace hS := hS.below hB
    go_wp2_with fail
    go_ret
    exact ⟨rfl, hS.erase 0⟩
  · have hv : rU32 xs s = 0 := by unfold rU32; rw [if_neg hok2]
    have hg : rGot xs s 4 = [] := by unfold rGot; rw [if_neg hok2]
    rw [hv]
    simp only [hg] at HRW
    clear hb hr hx hA hsep hv hg hok2
    go_enter Tryz.func31, Tryz.ntmps31
    go_wp2_with fail
    refine (HRW.out _ HB.out HR.out).mono ?_
    rintro e w2 ⟨v, rfl, hS⟩
    obtain ⟨Av, cv, rfl, _⟩ := (hS.os 0 rfl).parts
    go_wp2_with fail
    go_ret
    exact ⟨rfl, hS.erase 0⟩
def keyUp (bs : List Int) (i : Nat) : List Int := bs.take i ++ List.replicate (32 - i) 0
theorem keyUp_length (bs : List Int) (i : Nat) (hi : i ≤ 32) (h : i ≤ bs.length) : (keyUp bs i).length = 32 := by simp [keyUp]; omega
theorem keyUp_set (bs : List Int) (i : Nat) (hi : i < 32) (h : i < bs.length) : (keyUp bs i).set i (rd bs i) = keyUp bs (i + 1) := by
  unfold keyUp
  rw [List.set_append_right _ _ (by rw [List.length_take]; omega), List.length_take, Nat.min_eq_left (by omega), Nat.sub_self, show 32 - i = (32 - (i + 1)) + 1 by omega, List.replicate_succ, List.set_cons_zero, List.take_add_one, List.append_assoc]
  congr 1
  unfold rd
  rw [List.getD_eq_getElem?_getD, List.getElem?_eq_getElem h]
  rfl
theorem zeroA32 : ((Tryz.prog.info? 23).bind (·.zero)).map (·.cells) = some (ints .u8 (List.replicate 32 0)).toArray := by kernel_rfl
theorem infoA32 : (Tryz.prog.info? 23).map (·.size) = some 32 := by kernel_rfl
theorem arrA32 : Tryz.prog.underlying 23 = some (.array 32 5) := by kernel_rfl
set_option maxHeartbeats 2000000 in
set_option maxRecDepth 100000 in
theorem r9key_calls (gr m c : Nat) (xs : List Int) (A : Option Addr) (s : RSt) (w : World) (hb : Blk w gr 72 (r9C (.slice A m c) s)) (hx : xs.length = m) (hr : Rd w A .u8 xs) (hA : A = none → c = 0) (hsep : ∀ ad, A = some ad → xs ≠ [] → ad.block ≠ gr) (ha : s.a ≤ m) (hc : m ≤ c) (hm : m ≤ 1000000) :
    Calls Tryz.prog 32 #[.pointer (some ⟨gr, 0, none⟩)] w fun e w' => e = .returned (.agg (ints .u8 (rKey xs s)).toArray) ∧ HS (fun k => k = gr) w w' [.blk gr 72 (r9C (.slice A m c) (s.step m 32))] := by
  have HRW := hid fun w' (hb : Blk w' gr 72 (r9C (.slice A m c) s)) (hr : Rd w' A .u8 xs) => r9raw_calls gr m c 32 xs A s w' hb hx hr hA hsep ha hc hm (by omega)
  have HR := hid hr
  have HK : Hd (keyUp (rGot xs s 32) (rGot xs s 32).length = rKey xs s ∧ (rGot xs s 32).length ≤ 32) := hid (by
    unfold rGot rKey keyUp
    split
    · rename_i h
      have hl : ((xs.drop s.a).take 32).length = 32 := by rw [List.length_take, List.length_drop]; omega
      rw [hl]
      exact ⟨by rw [List.take_of_length_le (by omega)]; simp, by omega⟩
    · simp)
  have HKL : Hd ((rKey xs s).length = 32) := hid (by rw [← HK.out.1]; exact keyUp_length _ _ HK.out.2 (Nat.le_refl _))
  have hS := (HS.start (fun k => k = gr) w).take (.blk gr 72 (r9C (.slice A m c) s)) hb (fun k hk => .inl hk) (fun f hf => by cases hf)
  obtain ⟨F, hF⟩ : ∃ F, Hd ((fun k => k = gr) = F) := ⟨_, hid rfl⟩
  have HSEP : Hd (∀ ad, A = some ad → xs ≠ [] → ¬ F ad.block) := hid (by rw [← hF.out]; exact hsep)
  rw [hF.out] at hS ⊢
  obtain ⟨bs, hbs⟩ : ∃ b, rGot xs s 32 = b := ⟨_, rfl⟩
  obtain ⟨K, hK⟩ : ∃ b, rKey xs s = b := ⟨_, rfl⟩
  simp only [hbs] at HRW
  rw [hbs, hK] at HK
  rw [hK] at HKL ⊢
  clear hbs hK hb hr hx hA hsep
  obtain ⟨s2, hs2⟩ : ∃ s2, s.step m 32 = s2 := ⟨_, rfl⟩
  simp only [hs2] at HRW ⊢
  clear hs2
  go_enter Tryz.func32, Tryz.ntmps32
  go_wp2_with (first
    | (refine alloc_blk rfl 23 rfl _ rfl (ints .u8 (List.replicate 32 0)) zeroA32 ?_; intro g2 w1 hga hba hBa hsa; replace hS : HS F w w1 [.blk g2 23 (ints .u8 (List.replicate 32 0)), .blk gr 72 (r9C (.slice A m c) s)] := hS.pushBlk hBa hba hga; clear hga hba hBa hsa)
    | fail)
  refine (HRW.out _ (hS.blk 1 rfl) (hS.oldRd HR.out HSEP.out)).mono ?_
  rintro e w2 ⟨v, rfl, hq⟩
  replace hS : HS F w w2 [.os 5 v (ints .u8 bs), .blk gr 72 (r9C (.slice A m c) s2), .blk g2 23 (ints .u8 (List.replicate 32 0))] := HS.call (A := [.blk gr 72 (r9C (.slice A m c) s)]) (hS.perm (List.Perm.swap _ _ _)) hq (fun j hj => ⟨_, List.mem_singleton.2 rfl, hj⟩)
  clear hq
  obtain ⟨Av, cv, h1, h2, h3, h4, _, hcl⟩ := (hS.os 0 rfl).parts
  rw [ints_length] at h1 h2
  obtain ⟨L, hL⟩ : ∃ L, bs.length = L := ⟨_, rfl⟩
  rw [hL] at h1 h2 HK
  have HL := hid hL
  subst h1
  clear hL hcl
  go_wp2_with (first
    | (refine alloc_blk rfl 23 rfl _ rfl (ints .u8 (List.replicate 32 0)) zeroA32 ?_; intro g4 w3 hga hba hBa hsa; replace hS : HS F w w3 [.blk g4 23 (ints .u8 (List.replicate 32 0)), .os 5 (.slice Av L cv) (ints .u8 bs), .blk gr 72 (r9C (.slice A m c) s2), .blk g2 23 (ints .u8 (List.replicate 32 0))] := hS.pushBlk hBa hba hga; clear hga hba hBa hsa)
    | fail)
  go_loopg [5] 33 (fun kq v5 wr => ∃ i : Nat, i ≤ L ∧ v5 = .int .i64 i ∧ Hd (kq + i = 33) ∧ HS F w wr [.blk g4 23 (ints .u8 (keyUp bs i)), .os 5 (.slice Av L cv) (ints .u8 bs), .blk gr 72 (r9C (.slice A m c) s2), .blk g2 23 (ints .u8 (List.replicate 32 0))])
  case atStart => exact ⟨0, by omega, rfl, hid rfl, hS⟩
  case round =>
    clear hS
    obtain ⟨i, hi, rfl, hq, hS⟩ := hrel
    have hL32 := HK.out.2
    by_cases hlt : i < L
    · obtain ⟨gv, ov, cv', hv, hcv⟩ := (hS.os 1 rfl).lies L (by rw [ints_length]; exact HL.out) (by omega)
      injection hv with hv1 hv2 hv3
      subst hv1 hv3
      have ci := hcv i _ (ints_get _ _ i (by rw [HL.out]; exact hlt))
      clear hcv
      have HSET := hid (keyUp_set bs i (by omega) (by rw [HL.out]; exact hlt))
      have HUL := hid (keyUp_length bs i (by omega) (by rw [HL.out]; omega))
      obtain ⟨y, hy⟩ : ∃ y, rd bs i = y := ⟨_, rfl⟩
      rw [hy] at ci HSET
      clear hy
      go_wp2_with (first
        | (refine hs_store1 hS 0 rfl rfl 5 _ _ rfl i rfl (.int .u8 y) rfl rfl sizeU8C (by rw [ints_length, HUL.out]; omega) _ rfl ?_; clear hS ci; intro w7 hS; rw [ints_set] at hS; simp only [List.set_cons_zero, HSET.out] at hS)
        | fail)
      go_roundg (gk - 1)
      case measure => have := hq.out; omega
      case rel => exact ⟨i + 1, by omega, by go_num, hid (by have := hq.out; omega), hS⟩
    · obtain rfl : i = L := by omega
      rw [HK.out.1] at hS
      have hKL2 : (ints .u8 K).length = 32 := by rw [ints_length]; exact HKL.out
      go_wp2_with (first
        | (refine hs_loadW hS 0 rfl rfl 23 _ rfl rfl 32 infoA32 (by rw [ints_length]; exact HKL.out) _ arrA32 rfl _ rfl ?_)
        | (refine hs_storeW hS 3 rfl rfl 23 _ _ rfl rfl (ints .u8 K) rfl (ints_one' _ _) 32 infoA32 (by rw [ints_length]; exact HKL.out) (by simp) _ rfl ?_; clear hS; intro w8 hS; replace hS : HS F w w8 [.blk g4 23 (ints .u8 K), .os 5 (.slice Av i cv) (ints .u8 bs), .blk gr 72 (r9C (.slice A m c) s2), .blk g2 23 (ints .u8 K)] := hS)
        | fail)
      refine bodyPost_ret (results_blk rfl _ _ g2 23 _ 32 5 rfl (hS.blk 3 rfl) arrA32 hKL2 infoA32) rfl ?_
      exact ⟨rfl, ((hS.erase 3).erase 0).erase 0⟩
set_option maxHeartbeats 1000000 in
set_option maxRecDepth 100000 in
theorem r9over_calls (gr m c : Nat) (A : Option Addr) (s : RSt) (w : World) (hb : Blk w gr 72 (r9C (.slice A m c) s)) :
    Calls Tryz.prog 33 #[.pointer (some ⟨gr, 0, none⟩)] w fun e w' => e = .returned (.agg (faultC (rOver m s).1 (rOver m s).2.1 (rOver m s).2.2).toArray) ∧ HS (fun k => k = gr) w w' [] := by
  obtain ⟨fs, hfs⟩ := undF
  have hS := (HS.start (fun k => k = gr) w).take (.blk gr 72 (r9C (.slice A m c) s)) hb (fun k hk => .inl hk) (fun f hf => by cases hf)
  obtain ⟨F, hF⟩ : ∃ F, Hd ((fun k => k = gr) = F) := ⟨_, hid rfl⟩
  rw [hF.out] at hS ⊢
  clear hb
  obtain ⟨sa, sc, sp, sn⟩ := s
  by_cases hs0 : sc = 0
  · subst hs0
    by_cases hlt : sa < m
    · rw [show rOver m ⟨sa, 0, sp, sn⟩ = (104, true, (sa : Int)) by unfold rOver; rw [if_pos ⟨rfl, hlt⟩]]
      dsimp only
      go_enter Tryz.func33, Tryz.ntmps33
      go_wp2_with (first
        | (refine alloc_blk rfl 44 rfl _ rfl (faultC 0 false 0) zeroF ?_; intro g2 w1 hga hba hBa hsa; replace hS : HS F w w1 [.blk g2 44 (faultC 0 false 0), .blk gr 72 (r9C (.slice A m c) ⟨sa, 0, sp, sn⟩)] := hS.pushBlk hBa hba hga; clear hga hba hBa hsa)
        | fail)
      try go_wp2_with fail
      refine wp_region_S (F := F) (w0 := w) (L0 := [.blk g2 44 (faultC 0 false 0), .blk gr 72 (r9C (.slice A m c) ⟨sa, 0, sp, sn⟩)]) [1] []
        (fun iK u E => match iK with
          | 1 => u = .bool true ∧ E = []
          | _ => False)
        ([]) (by kernel_rfl) (by kernel_rfl) hS ?_
      show wpS _ _ _ _ _ _ _ _ _ _ [0, 1, 2, 3, 4, 5, 6, 7, 8, 9, 10, 11, 12, 13] _
      apply wpS_read (i := 0) rfl rfl ⟨_, hS⟩ rfl
      · intro w' hT'
        simp only [getElem_toArray, getElem_cons_zero, getElem_cons_succ]
        go_wp2_with fail
        first | exact ⟨rfl, rfl, rfl⟩ | rfl
      refine wpS_soft (i := 1) rfl rfl rfl (Nat.le_of_ble_eq_true rfl) ?_ ?_
      · intro w' hT
        simp only [getElem_toArray, getElem_cons_zero, getElem_cons_succ]
        go_wp2_with (first
          | (go_at_call 59; refine (r9fine_calls gr _ _ true _ (hT.blk 1 rfl) rfl).mono ?_; rintro e w6 ⟨rfl, hB⟩)
          | fail)
        exact SoftP.mk' (.bool true) ([]) rfl (⟨rfl, rfl⟩) (hT.below hB) (hB) (fun _ h => by cases h)
      intro u1 E1 hK1
      obtain ⟨rfl, rfl⟩ := hK1
      simp only [Act.put, List.setIfInBounds_toArray, List.set_cons_zero, List.set_cons_succ]
      apply wpS_read (i := 2) rfl rfl ⟨_, hS⟩ rfl
      · intro w' hT'
        simp only [getElem_toArray, getElem_cons_zero, getElem_cons_succ]
        go_wp2_with fail
        first | exact ⟨rfl, rfl, rfl⟩ | rfl
      apply wpS_read (i := 3) rfl rfl ⟨_, hS⟩ rfl
      · intro w' hT'
        simp only [getElem_toArray, getElem_cons_zero, getElem_cons_succ]
        go_wp2_with fail
        first | exact ⟨rfl, rfl, rfl⟩ | rfl
      apply wpS_read (i := 4) rfl rfl ⟨_, hS⟩ rfl
      · intro w' hT'
        simp only [getElem_toArray, getElem_cons_zero, getElem_cons_succ]
        go_wp2_with fail
        first | exact ⟨rfl, rfl, rfl⟩ | rfl
      apply wpS_read (i := 5) rfl rfl ⟨_, hS⟩ rfl
      · intro w' hT'
        simp only [getElem_toArray, getElem_cons_zero, getElem_cons_succ]
        go_wp2_with fail
        first | exact ⟨rfl, rfl, rfl⟩ | rfl
      apply wpS_read (i := 6) rfl rfl ⟨_, hS⟩ rfl
      · intro w' hT'
        simp only [getElem_toArray, getElem_cons_zero, getElem_cons_succ]
        have c0 : w'.cell? ⟨gr, 0, none⟩ = some (.slice A m c) := hT'.cell 1 rfl 0
        have c1 : w'.cell? ⟨gr, 1, none⟩ = some (.int .i64 (sa : Int)) := hT'.cell 1 rfl 1
        go_wp2_with fail
        first | exact ⟨rfl, rfl, rfl⟩ | rfl
      apply wpS_read (i := 7) rfl rfl ⟨_, hS⟩ rfl
      · intro w' hT'
        simp only [getElem_toArray, getElem_cons_zero, getElem_cons_succ]
        go_wp2_with fail
        first | exact ⟨rfl, rfl, rfl⟩ | rfl
      apply wpS_read (i := 8) rfl rfl ⟨_, hS⟩ rfl
      · intro w' hT'
        simp only [getElem_toArray, getElem_cons_zero, getElem_cons_succ]
        go_wp2_with fail
        first | exact ⟨rfl, rfl, rfl⟩ | rfl
      apply wpS_read (i := 9) rfl rfl ⟨_, hS⟩ rfl
      · intro w' hT'
        simp only [getElem_toArray, getElem_cons_zero, getElem_cons_succ]
        go_wp2_with fail
        first | exact ⟨rfl, rfl, rfl⟩ | rfl
      apply wpS_read (i := 10) rfl rfl ⟨_, hS⟩ rfl
      · intro w' hT'
        simp only [getElem_toArray, getElem_cons_zero, getElem_cons_succ]
        have c0 : w'.cell? ⟨gr, 0, none⟩ = some (.slice A m c) := hT'.cell 1 rfl 0
        have c1 : w'.cell? ⟨gr, 1, none⟩ = some (.int .i64 (sa : Int)) := hT'.cell 1 rfl 1
        go_wp2_with fail
        first | exact ⟨rfl, rfl, rfl⟩ | rfl
      apply wpS_read (i := 11) rfl rfl ⟨_, hS⟩ rfl
      · intro w' hT'
        simp only [getElem_toArray, getElem_cons_zero, getElem_cons_succ]
        go_wp2_with fail
        first | exact ⟨rfl, rfl, rfl⟩ | rfl
      apply wpS_read (i := 12) rfl rfl ⟨_, hS⟩ rfl
      · intro w' hT'
        simp only [getElem_toArray, getElem_cons_zero, getElem_cons_succ]
        go_wp2_with fail
        first | exact ⟨rfl, rfl, rfl⟩ | rfl
      apply wpS_read (i := 13) rfl rfl ⟨_, hS⟩ rfl
      · intro w' hT'
        simp only [getElem_toArray, getElem_cons_zero, getElem_cons_succ]
        go_wp2_with fail
        first | exact ⟨rfl, rfl, rfl⟩ | rfl
      refine wpS_end ?_
      intro wz hT
      try dsimp only
      clear hS
      have hS : HS F w wz [.blk g2 44 (faultC 0 false 0), .blk gr 72 (r9C (.slice A m c) ⟨sa, 0, sp, sn⟩)] := hT
      clear hT
      have c1 : wz.cell? ⟨gr, 1, none⟩ = some (.int .i64 (sa : Int)) := hS.cell 1 rfl 1
      go_wp2_with (first
        | (go_at_call 60; refine (r9fail_calls gr _ _ 104 (sa : Int) _ (hS.blk 1 rfl) rfl (by decide)).mono ?_; rintro e w6 ⟨rfl, hq⟩; replace hS : HS F w w6 [.blk g2 44 (faultC 0 false 0), .blk gr 72 (r9C (.slice A m c) ⟨sa, 104, true, (sa : Int)⟩)] := (HS.call (A := [.blk gr 72 (r9C (.slice A m c) ⟨sa, 0, sp, sn⟩)]) (hS.perm (List.Perm.swap _ _ _)) hq (fun j hj => ⟨_, List.mem_singleton.2 rfl, hj⟩)).perm (List.Perm.swap _ _ _); clear hq c1)
        | (refine hs_loadN hS 1 rfl rfl 44 _ rfl 2 rfl (faultC 104 true (sa : Int)) (fun m u hm => by match m, hm with | 0, hm => exact hm | 1, hm => exact hm | 2, hm => exact hm) 3 infoF rfl _ hfs rfl _ rfl ?_)
        | (refine hs_storeW hS 0 rfl rfl 44 _ _ rfl rfl (faultC 104 true (sa : Int)) rfl (by simp [faultC, Value.oneCell']) 3 infoF rfl rfl _ rfl ?_; clear hS; intro w9 hS; replace hS : HS F w w9 [.blk g2 44 (faultC 104 true (sa : Int)), .blk gr 72 (r9C (.slice A m c) ⟨sa, 104, true, (sa : Int)⟩)] := hS)
        | fail)
      refine bodyPost_ret (results_str1 rfl _ _ g2 44 _ fs rfl (hS.blk 0 rfl) hfs infoF) rfl ?_
      exact ⟨rfl, hS.sub (List.nil_sublist _)⟩
    · rw [show rOver m ⟨sa, 0, sp, sn⟩ = (0, sp, sn) by unfold rOver; rw [if_neg (fun h => hlt h.2)]]
      dsimp only
      go_enter Tryz.func33, Tryz.ntmps33
      go_wp2_with (first
        | (refine alloc_blk rfl 44 rfl _ rfl (faultC 0 false 0) zeroF ?_; intro g2 w1 hga hba hBa hsa; replace hS : HS F w w1 [.blk g2 44 (faultC 0 false 0), .blk gr 72 (r9C (.slice A m c) ⟨sa, 0, sp, sn⟩)] := hS.pushBlk hBa hba hga; clear hga hba hBa hsa)
        | fail)
      try go_wp2_with fail
      refine wp_region_S (F := F) (w0 := w) (L0 := [.blk g2 44 (faultC 0 false 0), .blk gr 72 (r9C (.slice A m c) ⟨sa, 0, sp, sn⟩)]) [1] []
        (fun iK u E => match iK with
          | 1 => u = .bool true ∧ E = []
          | _ => False)
        ([]) (by kernel_rfl) (by kernel_rfl) hS ?_
      show wpS _ _ _ _ _ _ _ _ _ _ [0, 1, 2, 3, 4, 5, 6, 7, 8, 9, 10, 11, 12, 13] _
      apply wpS_read (i := 0) rfl rfl ⟨_, hS⟩ rfl
      · intro w' hT'
        simp only [getElem_toArray, getElem_cons_zero, getElem_cons_succ]
        go_wp2_with fail
        first | exact ⟨rfl, rfl, rfl⟩ | rfl
      refine wpS_soft (i := 1) rfl rfl rfl (Nat.le_of_ble_eq_true rfl) ?_ ?_
      · intro w' hT
        simp only [getElem_toArray, getElem_cons_zero, getElem_cons_succ]
        go_wp2_with (first
          | (go_at_call 59; refine (r9fine_calls gr _ _ true _ (hT.blk 1 rfl) rfl).mono ?_; rintro e w6 ⟨rfl, hB⟩)
          | fail)
        exact SoftP.mk' (.bool true) ([]) rfl (⟨rfl, rfl⟩) (hT.below hB) (hB) (fun _ h => by cases h)
      intro u1 E1 hK1
      obtain ⟨rfl, rfl⟩ := hK1
      simp only [Act.put, List.setIfInBounds_toArray, List.set_cons_zero, List.set_cons_succ]
      apply wpS_read (i := 2) rfl rfl ⟨_, hS⟩ rfl
      · intro w' hT'
        simp only [getElem_toArray, getElem_cons_zero, getElem_cons_succ]
        go_wp2_with fail
        first | exact ⟨rfl, rfl, rfl⟩ | rfl
      apply wpS_read (i := 3) rfl rfl ⟨_, hS⟩ rfl
      · intro w' hT'
        simp only [getElem_toArray, getElem_cons_zero, getElem_cons_succ]
        go_wp2_with fail
        first | exact ⟨rfl, rfl, rfl⟩ | rfl
      apply wpS_read (i := 4) rfl rfl ⟨_, hS⟩ rfl
      · intro w' hT'
        simp only [getElem_toArray, getElem_cons_zero, getElem_cons_succ]
        go_wp2_with fail
        first | exact ⟨rfl, rfl, rfl⟩ | rfl
      apply wpS_read (i := 5) rfl rfl ⟨_, hS⟩ rfl
      · intro w' hT'
        simp only [getElem_toArray, getElem_cons_zero, getElem_cons_succ]
        go_wp2_with fail
        first | exact ⟨rfl, rfl, rfl⟩ | rfl
      apply wpS_read (i := 6) rfl rfl ⟨_, hS⟩ rfl
      · intro w' hT'
        simp only [getElem_toArray, getElem_cons_zero, getElem_cons_succ]
        have c0 : w'.cell? ⟨gr, 0, none⟩ = some (.slice A m c) := hT'.cell 1 rfl 0
        have c1 : w'.cell? ⟨gr, 1, none⟩ = some (.int .i64 (sa : Int)) := hT'.cell 1 rfl 1
        go_wp2_with fail
        first | exact ⟨rfl, rfl, rfl⟩ | rfl
      apply wpS_read (i := 7) rfl rfl ⟨_, hS⟩ rfl
      · intro w' hT'
        simp only [getElem_toArray, getElem_cons_zero, getElem_cons_succ]
        go_wp2_with fail
        first | exact ⟨rfl, rfl, rfl⟩ | rfl
      apply wpS_read (i := 8) rfl rfl ⟨_, hS⟩ rfl
      · intro w' hT'
        simp only [getElem_toArray, getElem_cons_zero, getElem_cons_succ]
        go_wp2_with fail
        first | exact ⟨rfl, rfl, rfl⟩ | rfl
      apply wpS_read (i := 9) rfl rfl ⟨_, hS⟩ rfl
      · intro w' hT'
        simp only [getElem_toArray, getElem_cons_zero, getElem_cons_succ]
        go_wp2_with fail
        first | exact ⟨rfl, rfl, rfl⟩ | rfl
      apply wpS_read (i := 10) rfl rfl ⟨_, hS⟩ rfl
      · intro w' hT'
        simp only [getElem_toArray, getElem_cons_zero, getElem_cons_succ]
        have c0 : w'.cell? ⟨gr, 0, none⟩ = some (.slice A m c) := hT'.cell 1 rfl 0
        have c1 : w'.cell? ⟨gr, 1, none⟩ = some (.int .i64 (sa : Int)) := hT'.cell 1 rfl 1
        go_wp2_with fail
        first | exact ⟨rfl, rfl, rfl⟩ | rfl
      apply wpS_read (i := 11) rfl rfl ⟨_, hS⟩ rfl
      · intro w' hT'
        simp only [getElem_toArray, getElem_cons_zero, getElem_cons_succ]
        go_wp2_with fail
        first | exact ⟨rfl, rfl, rfl⟩ | rfl
      apply wpS_read (i := 12) rfl rfl ⟨_, hS⟩ rfl
      · intro w' hT'
        simp only [getElem_toArray, getElem_cons_zero, getElem_cons_succ]
        go_wp2_with fail
        first | exact ⟨rfl, rfl, rfl⟩ | rfl
      apply wpS_read (i := 13) rfl rfl ⟨_, hS⟩ rfl
      · intro w' hT'
        simp only [getElem_toArray, getElem_cons_zero, getElem_cons_succ]
        go_wp2_with fail
        first | exact ⟨rfl, rfl, rfl⟩ | rfl
      refine wpS_end ?_
      intro wz hT
      try dsimp only
      clear hS
      have hS : HS F w wz [.blk g2 44 (faultC 0 false 0), .blk gr 72 (r9C (.slice A m c) ⟨sa, 0, sp, sn⟩)] := hT
      clear hT
      have c1 : wz.cell? ⟨gr, 1, none⟩ = some (.int .i64 (sa : Int)) := hS.cell 1 rfl 1
      go_wp2_with (first
        | (refine hs_loadN hS 1 rfl rfl 44 _ rfl 2 rfl (faultC 0 sp sn) (fun m u hm => by match m, hm with | 0, hm => exact hm | 1, hm => exact hm | 2, hm => exact hm) 3 infoF rfl _ hfs rfl _ rfl ?_)
        | (refine hs_storeW hS 0 rfl rfl 44 _ _ rfl rfl (faultC 0 sp sn) rfl (by simp [faultC, Value.oneCell']) 3 infoF rfl rfl _ rfl ?_; clear hS; intro w9 hS; replace hS : HS F w w9 [.blk g2 44 (faultC 0 sp sn), .blk gr 72 (r9C (.slice A m c) ⟨sa, 0, sp, sn⟩)] := hS)
        | fail)
      refine bodyPost_ret (results_str1 rfl _ _ g2 44 _ fs rfl (hS.blk 0 rfl) hfs infoF) rfl ?_
      exact ⟨rfl, hS.sub (List.nil_sublist _)⟩
  · rw [show rOver m ⟨sa, sc, sp, sn⟩ = (sc, sp, sn) by unfold rOver; rw [if_neg (fun h => hs0 h.1)]]
    dsimp only
    have HF0 : Hd ((sc == 0) = false) := hid (by simpa using hs0)
    clear hs0
    go_enter Tryz.func33, Tryz.ntmps33
    go_wp2_with (first
      | (refine alloc_blk rfl 44 rfl _ rfl (faultC 0 false 0) zeroF ?_; intro g2 w1 hga hba hBa hsa; replace hS : HS F w w1 [.blk g2 44 (faultC 0 false 0), .blk gr 72 (r9C (.slice A m c) ⟨sa, sc, sp, sn⟩)] := hS.pushBlk hBa hba hga; clear hga hba hBa hsa)
      | fail)
    try go_wp2_with fail
    refine wp_region_S (F := F) (w0 := w) (L0 := [.blk g2 44 (faultC 0 false 0), .blk gr 72 (r9C (.slice A m c) ⟨sa, sc, sp, sn⟩)]) [1] []
      (fun iK u E => match iK with
        | 1 => u = .bool false ∧ E = []
        | _ => False)
      ([]) (by kernel_rfl) (by kernel_rfl) hS ?_
    show wpS _ _ _ _ _ _ _ _ _ _ [0, 1, 2, 3, 4, 5, 6, 7, 8, 9, 10, 11, 12, 13] _
    apply wpS_read (i := 0) rfl rfl ⟨_, hS⟩ rfl
    · intro w' hT'
      simp only [getElem_toArray, getElem_cons_zero, getElem_cons_succ]
      go_wp2_with fail
      first | exact ⟨rfl, rfl, rfl⟩ | rfl
    refine wpS_soft (i := 1) rfl rfl rfl (Nat.le_of_ble_eq_true rfl) ?_ ?_
    · intro w' hT
      simp only [getElem_toArray, getElem_cons_zero, getElem_cons_succ]
      go_wp2_with (first
        | (go_at_call 59; refine (r9fine_calls gr _ _ false _ (hT.blk 1 rfl) HF0.out).mono ?_; rintro e w6 ⟨rfl, hB⟩)
        | fail)
      exact SoftP.mk' (.bool false) ([]) rfl (⟨rfl, rfl⟩) (hT.below hB) (hB) (fun _ h => by cases h)
    intro u1 E1 hK1
    obtain ⟨rfl, rfl⟩ := hK1
    simp only [Act.put, List.setIfInBounds_toArray, List.set_cons_zero, List.set_cons_succ]
    apply wpS_read (i := 2) rfl rfl ⟨_, hS⟩ rfl
    · intro w' hT'
      simp only [getElem_toArray, getElem_cons_zero, getElem_cons_succ]
      go_wp2_with fail
      first | exact ⟨rfl, rfl, rfl⟩ | rfl
    apply wpS_read (i := 3) rfl rfl ⟨_, hS⟩ rfl
    · intro w' hT'
      simp only [getElem_toArray, getElem_cons_zero, getElem_cons_succ]
      go_wp2_with fail
      first | exact ⟨rfl, rfl, rfl⟩ | rfl
    apply wpS_read (i := 4) rfl rfl ⟨_, hS⟩ rfl
    · intro w' hT'
      simp only [getElem_toArray, getElem_cons_zero, getElem_cons_succ]
      go_wp2_with fail
      first | exact ⟨rfl, rfl, rfl⟩ | rfl
    apply wpS_read (i := 5) rfl rfl ⟨_, hS⟩ rfl
    · intro w' hT'
      simp only [getElem_toArray, getElem_cons_zero, getElem_cons_succ]
      go_wp2_with fail
      first | exact ⟨rfl, rfl, rfl⟩ | rfl
    apply wpS_read (i := 6) rfl rfl ⟨_, hS⟩ rfl
    · intro w' hT'
      simp only [getElem_toArray, getElem_cons_zero, getElem_cons_succ]
      have c0 : w'.cell? ⟨gr, 0, none⟩ = some (.slice A m c) := hT'.cell 1 rfl 0
      have c1 : w'.cell? ⟨gr, 1, none⟩ = some (.int .i64 (sa : Int)) := hT'.cell 1 rfl 1
      go_wp2_with fail
      first | exact ⟨rfl, rfl, rfl⟩ | rfl
    apply wpS_read (i := 7) rfl rfl ⟨_, hS⟩ rfl
    · intro w' hT'
      simp only [getElem_toArray, getElem_cons_zero, getElem_cons_succ]
      go_wp2_with fail
      first | exact ⟨rfl, rfl, rfl⟩ | rfl
    apply wpS_read (i := 8) rfl rfl ⟨_, hS⟩ rfl
    · intro w' hT'
      simp only [getElem_toArray, getElem_cons_zero, getElem_cons_succ]
      go_wp2_with fail
      first | exact ⟨rfl, rfl, rfl⟩ | rfl
    apply wpS_read (i := 9) rfl rfl ⟨_, hS⟩ rfl
    · intro w' hT'
      simp only [getElem_toArray, getElem_cons_zero, getElem_cons_succ]
      go_wp2_with fail
      first | exact ⟨rfl, rfl, rfl⟩ | rfl
    apply wpS_read (i := 10) rfl rfl ⟨_, hS⟩ rfl
    · intro w' hT'
      simp only [getElem_toArray, getElem_cons_zero, getElem_cons_succ]
      have c0 : w'.cell? ⟨gr, 0, none⟩ = some (.slice A m c) := hT'.cell 1 rfl 0
      have c1 : w'.cell? ⟨gr, 1, none⟩ = some (.int .i64 (sa : Int)) := hT'.cell 1 rfl 1
      go_wp2_with fail
      first | exact ⟨rfl, rfl, rfl⟩ | rfl
    apply wpS_read (i := 11) rfl rfl ⟨_, hS⟩ rfl
    · intro w' hT'
      simp only [getElem_toArray, getElem_cons_zero, getElem_cons_succ]
      go_wp2_with fail
      first | exact ⟨rfl, rfl, rfl⟩ | rfl
    apply wpS_read (i := 12) rfl rfl ⟨_, hS⟩ rfl
    · intro w' hT'
      simp only [getElem_toArray, getElem_cons_zero, getElem_cons_succ]
      go_wp2_with fail
      first | exact ⟨rfl, rfl, rfl⟩ | rfl
    apply wpS_read (i := 13) rfl rfl ⟨_, hS⟩ rfl
    · intro w' hT'
      simp only [getElem_toArray, getElem_cons_zero, getElem_cons_succ]
      go_wp2_with fail
      first | exact ⟨rfl, rfl, rfl⟩ | rfl
    refine wpS_end ?_
    intro wz hT
    try dsimp only
    clear hS
    have hS : HS F w wz [.blk g2 44 (faultC 0 false 0), .blk gr 72 (r9C (.slice A m c) ⟨sa, sc, sp, sn⟩)] := hT
    clear hT
    have c1 : wz.cell? ⟨gr, 1, none⟩ = some (.int .i64 (sa : Int)) := hS.cell 1 rfl 1
    go_wp2_with (first
      | (refine hs_loadN hS 1 rfl rfl 44 _ rfl 2 rfl (faultC sc sp sn) (fun m u hm => by match m, hm with | 0, hm => exact hm | 1, hm => exact hm | 2, hm => exact hm) 3 infoF rfl _ hfs rfl _ rfl ?_)
      | (refine hs_storeW hS 0 rfl rfl 44 _ _ rfl rfl (faultC sc sp sn) rfl (by simp [faultC, Value.oneCell']) 3 infoF rfl rfl _ rfl ?_; clear hS; intro w9 hS; replace hS : HS F w w9 [.blk g2 44 (faultC sc sp sn), .blk gr 72 (r9C (.slice A m c) ⟨sa, sc, sp, sn⟩)] := hS)
      | fail)
    refine bodyPost_ret (results_str1 rfl _ _ g2 44 _ fs rfl (hS.blk 0 rfl) hfs infoF) rfl ?_
    exact ⟨rfl, hS.sub (List.nil_sublist _)⟩
end Go.Proofs.YtlikinglgegclaaGreatDoor
