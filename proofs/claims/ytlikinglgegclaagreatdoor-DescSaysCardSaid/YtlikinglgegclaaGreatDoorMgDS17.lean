import Derived.Test.YtlikinglgegclaaGreatDoorMgDS0
import Derived.Test.YtlikinglgegclaaGreatDoorMgDS1
import Derived.Test.YtlikinglgegclaaGreatDoorMgDS2
import Derived.Test.YtlikinglgegclaaGreatDoorMgDS3
import Derived.Test.YtlikinglgegclaaGreatDoorMgDS4
import Derived.Test.YtlikinglgegclaaGreatDoorMgDS5
import Derived.Test.YtlikinglgegclaaGreatDoorMgDS6
import Derived.Test.YtlikinglgegclaaGreatDoorMgDS7
import Derived.Test.YtlikinglgegclaaGreatDoorMgDS8
import Derived.Test.YtlikinglgegclaaGreatDoorMgDS9
import Derived.Test.YtlikinglgegclaaGreatDoorMgDS10
import Derived.Test.YtlikinglgegclaaGreatDoorMgDS11
import Derived.Test.YtlikinglgegclaaGreatDoorMgDS12
import Derived.Test.YtlikinglgegclaaGreatDoorMgDS13
import Derived.Test.YtlikinglgegclaaGreatDoorMgDS14
import Derived.Test.YtlikinglgegclaaGreatDoorMgDS15
import Derived.Test.YtlikinglgegclaaGreatDoorMgDS16
set_option linter.unusedSimpArgs false
set_option linter.unusedVariables false
open List (getElem_toArray getElem_cons_zero getElem_cons_succ)
/- The reference's desc, read. -/
namespace Go.Proofs.YtlikinglgegclaaGreatDoor
open Go.RowKit Go.Cour
section
variable {m a k : Nat} {c n : Int} {p : Bool}
theorem step_ok (h : a + k ≤ m) : RSt.step m ⟨a, 0, p, n⟩ k = ⟨a + k, 0, p, n⟩ := by unfold RSt.step; rw [if_neg (by simp), if_pos h]
theorem step_no (h : m < a + k) : RSt.step m ⟨a, 0, p, n⟩ k = ⟨a, 103, true, (a : Int)⟩ := by unfold RSt.step; rw [if_neg (by simp), if_neg (by simp only; omega)]
theorem step_bad (h : c ≠ 0) : RSt.step m ⟨a, c, p, n⟩ k = ⟨a, c, p, n⟩ := by unfold RSt.step; rw [if_pos h]
theorem step_le (s : RSt) (h : s.a ≤ m) : (s.step m k).a ≤ m := by
  unfold RSt.step
  split
  · exact h
  · split
    · assumption
    · exact h
end
theorem p4R {α : Type} (a b c d : α) : [a, b, c, d].Perm [d, c, a, b] := by
  have h1 : [a, b, c, d].Perm [c, d, a, b] := List.perm_append_comm (l₁ := [a, b]) (l₂ := [c, d])
  exact h1.trans (List.Perm.swap _ _ _)
theorem results_str22 {P : Program} {fn : Func} {p q : Tmp} {ty tz : TypeId} (h : fn.results = #[.cell p ty, .cell q tz]) (tmps : Array Value) (w : World) (g g' : Nat) {t t' : TypeId} (cs ds : List Value) {fs fs' : _}
    (hp : tmps.getD p undef = .pointer (some ⟨g, 0, none⟩)) (hq : tmps.getD q undef = .pointer (some ⟨g', 0, none⟩)) (hg : Blk w g t cs) (hg' : Blk w g' t' ds)
    (hu : P.underlying ty = some (.struct fs)) (hi : (P.info? ty).map (·.size) = some cs.length) (hu' : P.underlying tz = some (.struct fs')) (hi' : (P.info? tz).map (·.size) = some ds.length) :
    (results fn tmps).run P w = .ok (.tuple #[.agg cs.toArray, .agg ds.toArray]) w := by
  have hp' : tmps[p]?.getD undef = .pointer (some ⟨g, 0, none⟩) := by simpa using hp
  have hq' : tmps[q]?.getD undef = .pointer (some ⟨g', 0, none⟩) := by simpa using hq
  simp [results, h, hp', hq', asAddr, run_loadVar_row w g t ty cs.toArray (0, 0) _ hg hu rfl (by rw [hi]; simp), run_loadVar_row w g' t' tz ds.toArray (0, 0) _ hg' hu' rfl (by rw [hi']; simp)]
def s0 : RSt := ⟨0, 0, false, 0⟩
def s1 (m : Nat) : RSt := s0.step m 4
def s2 (m : Nat) : RSt := (s1 m).step m 4
def s3 (m : Nat) : RSt := (s2 m).step m 4
def s4 (m : Nat) : RSt := (s3 m).step m 32
def s5 (m : Nat) : RSt := (s4 m).step m 32
def s6 (m : Nat) : RSt := (s5 m).step m 32
theorem over_short (m : Nat) (h : m < 108) : rOver m (s6 m) = (103, true, (shortAt m : Int)) := by
  have hb : ∀ (a : Nat) (n : Int), rOver m ⟨a, 103, true, n⟩ = (103, true, n) := fun a n => by unfold rOver; rw [if_neg (by simp)]
  have h103 : (103 : Int) ≠ 0 := by decide
  unfold s6 s5 s4 s3 s2 s1 s0 shortAt
  rcases (by omega : m < 4 ∨ (4 ≤ m ∧ m < 8) ∨ (8 ≤ m ∧ m < 12) ∨ (12 ≤ m ∧ m < 44) ∨ (44 ≤ m ∧ m < 76) ∨ 76 ≤ m) with h1 | h1 | h1 | h1 | h1 | h1
  · rw [step_no (by omega), step_bad h103, step_bad h103, step_bad h103, step_bad h103, step_bad h103, hb, if_pos (by omega)]
  · rw [step_ok (by omega), step_no (by omega), step_bad h103, step_bad h103, step_bad h103, step_bad h103, hb, if_neg (by omega), if_pos (by omega)]
  · rw [step_ok (by omega), step_ok (by omega), step_no (by omega), step_bad h103, step_bad h103, step_bad h103, hb, if_neg (by omega), if_neg (by omega), if_pos (by omega)]
  · rw [step_ok (by omega), step_ok (by omega), step_ok (by omega), step_no (by omega), step_bad h103, step_bad h103, hb, if_neg (by omega), if_neg (by omega), if_neg (by omega), if_pos (by omega)]
  · rw [step_ok (by omega), step_ok (by omega), step_ok (by omega), step_ok (by omega), step_no (by omega), step_bad h103, hb, if_neg (by omega), if_neg (by omega), if_neg (by omega), if_neg (by omega), if_pos (by omega)]
  · rw [step_ok (by omega), step_ok (by omega), step_ok (by omega), step_ok (by omega), step_ok (by omega), step_no (by omega), hb, if_neg (by omega), if_neg (by omega), if_neg (by omega), if_neg (by omega), if_neg (by omega)]
theorem all_ok (m : Nat) (h : 108 ≤ m) : s1 m = ⟨4, 0, false, 0⟩ ∧ s2 m = ⟨8, 0, false, 0⟩ ∧ s3 m = ⟨12, 0, false, 0⟩ ∧ s4 m = ⟨44, 0, false, 0⟩ ∧ s5 m = ⟨76, 0, false, 0⟩ ∧ s6 m = ⟨108, 0, false, 0⟩ := by
  have h1 : s1 m = ⟨4, 0, false, 0⟩ := by unfold s1 s0; rw [step_ok (by omega)]
  have h2 : s2 m = ⟨8, 0, false, 0⟩ := by unfold s2; rw [h1, step_ok (by omega)]
  have h3 : s3 m = ⟨12, 0, false, 0⟩ := by unfold s3; rw [h2, step_ok (by omega)]
  have h4 : s4 m = ⟨44, 0, false, 0⟩ := by unfold s4; rw [h3, step_ok (by omega)]
  have h5 : s5 m = ⟨76, 0, false, 0⟩ := by unfold s5; rw [h4, step_ok (by omega)]
  have h6 : s6 m = ⟨108, 0, false, 0⟩ := by unfold s6; rw [h5, step_ok (by omega)]
  exact ⟨h1, h2, h3, h4, h5, h6⟩
/-- What the reference has read, whatever it was. -/
def refD (xs : List Int) (m : Nat) : List Value := descC (rU32 xs s0) (rU32 xs (s1 m)) (rU32 xs (s2 m)) (rKey xs (s3 m)) (rKey xs (s4 m)) (rKey xs (s5 m))
theorem refD_bad {xs : List Int} {m : Nat} (hm : xs.length = m) (h : (rOver m (s6 m)).1 ≠ 0) : readD xs = (zeroD, rOver m (s6 m)) := by
  unfold readD
  rw [hm]
  by_cases h1 : m < 108
  · rw [if_pos h1, over_short m h1]
  · rw [if_neg h1]
    have h6 := (all_ok m (by omega)).2.2.2.2.2
    rw [h6] at h ⊢
    by_cases h2 : 108 < m
    · rw [if_pos h2]
      unfold rOver
      rw [if_pos ⟨rfl, h2⟩]
      rfl
    · exfalso
      unfold rOver at h
      rw [if_neg (fun h3 => h2 h3.2)] at h
      exact h rfl
theorem refD_fine {xs : List Int} {m : Nat} (hm : xs.length = m) (h : (rOver m (s6 m)).1 = 0) : m = 108 ∧ rOver m (s6 m) = (0, false, 0) ∧ refD xs m = descAt xs := by
  by_cases h1 : m < 108
  · rw [over_short m h1] at h; simp at h
  · obtain ⟨e1, e2, e3, e4, e5, e6⟩ := all_ok m (by omega)
    have h2 : m = 108 := by
      by_cases h2 : 108 < m
      · rw [e6] at h
        unfold rOver at h
        rw [if_pos ⟨rfl, h2⟩] at h
        exact absurd h (by decide)
      · omega
    refine ⟨h2, ?_, ?_⟩
    · rw [e6]; unfold rOver; rw [if_neg (fun h3 => by have := h3.2; simp only at this; omega)]
    · unfold refD descAt rU32 rKey
      rw [e1, e2, e3, e4, e5]
      unfold s0
      simp only [hm, h2]
      rfl
set_option maxHeartbeats 1000000 in
set_option maxRecDepth 100000 in
theorem good16_calls (D : List Value) (m q : Nat) (w : World) (h1 : D[1]? = some (.int .u32 (m : Int))) (h2 : D[2]? = some (.int .u32 (q : Int))) :
    Calls Tryz.prog 18 #[.agg D.toArray] w fun e w' => e = .returned (.bool (decide (m ≤ 600 ∧ 1 ≤ q ∧ q ≤ 64))) ∧ Below w.heap.size w w' := by
  have H1 := hid h1
  have H2 := hid h2
  have hS := HS.start NoF w
  clear h1 h2
  by_cases ha : m ≤ 600
  · by_cases hb : 1 ≤ q
    · by_cases hc : q ≤ 64
      all_goals
        rw [show decide (m ≤ 600 ∧ 1 ≤ q ∧ q ≤ 64) = decide (q ≤ 64) by simp [ha, hb]]
        have e1 : (m : Int) ≤ 600 := by omega
        have e2 : (1 : Int) ≤ q := by omega
        have e3 : ((q : Int) ≤ 64) = (q ≤ 64) := by simp only [eq_iff_iff]; omega
        go_enter Tryz.func18, Tryz.ntmps18
        go_wp2_with (first
            | (refine box_blk rfl 27 _ rfl _ rfl D rfl ?_; intro g1 w1 hga hba hBa hsa; replace hS : HS NoF w w1 [.blk g1 27 D] := hS.pushBlk hBa hba hga; clear hga hba hBa hsa; have c1 : w1.cell? ⟨g1, 1, none⟩ = _ := (hS.cell 0 rfl 1).trans H1.out; have c2 : w1.cell? ⟨g1, 2, none⟩ = _ := (hS.cell 0 rfl 2).trans H2.out)
            | fail)
        go_ret
        exact ⟨by simp_all, hS.bel⟩
    · rw [show decide (m ≤ 600 ∧ 1 ≤ q ∧ q ≤ 64) = false by simp [hb]]
      have e1 : (m : Int) ≤ 600 := by omega
      have e2 : ¬ (1 : Int) ≤ q := by omega
      go_enter Tryz.func18, Tryz.ntmps18
      go_wp2_with (first
          | (refine box_blk rfl 27 _ rfl _ rfl D rfl ?_; intro g1 w1 hga hba hBa hsa; replace hS : HS NoF w w1 [.blk g1 27 D] := hS.pushBlk hBa hba hga; clear hga hba hBa hsa; have c1 : w1.cell? ⟨g1, 1, none⟩ = _ := (hS.cell 0 rfl 1).trans H1.out; have c2 : w1.cell? ⟨g1, 2, none⟩ = _ := (hS.cell 0 rfl 2).trans H2.out)
          | fail)
      go_ret
      exact ⟨by simp_all, hS.bel⟩
  · rw [show decide (m ≤ 600 ∧ 1 ≤ q ∧ q ≤ 64) = false by simp [ha]]
    have e1 : ¬ (m : Int) ≤ 600 := by omega
    go_enter Tryz.func18, Tryz.ntmps18
    go_wp2_with (first
        | (refine box_blk rfl 27 _ rfl _ rfl D rfl ?_; intro g1 w1 hga hba hBa hsa; replace hS : HS NoF w w1 [.blk g1 27 D] := hS.pushBlk hBa hba hga; clear hga hba hBa hsa; have c1 : w1.cell? ⟨g1, 1, none⟩ = _ := (hS.cell 0 rfl 1).trans H1.out; have c2 : w1.cell? ⟨g1, 2, none⟩ = _ := (hS.cell 0 rfl 2).trans H2.out)
        | fail)
    go_ret
    exact ⟨by simp_all, hS.bel⟩
theorem builtR9 (A : Option Addr) (m c : Nat) : Tryz.prog.built 72 [(0, .slice A m c)] = some #[.slice A m c, .int .i64 0, .int .i64 0, .bool false, .int .i64 0] := by kernel_rfl
theorem builtDi (x : Int) : Tryz.prog.built 27 [(0, .int .u32 x)] = some (descC x 0 0 zk zk zk).toArray := by kernel_rfl
theorem rKey_length (xs : List Int) (s : RSt) : (rKey xs s).length = 32 := by
  unfold rKey
  split
  · rw [List.length_take, List.length_drop]; omega
  · simp
theorem rU32_nonneg (xs : List Int) (s : RSt) : 0 ≤ rU32 xs s := by
  unfold rU32
  split
  · exact u32At_nonneg _ _
  · exact Int.le_refl _
set_option maxHeartbeats 8000000 in
set_option maxRecDepth 100000 in
theorem rdesc16_calls (xs : List Int) (A : Option Addr) (m c : Nat) (w : World) (hxm : xs.length = m) (hok : bytesOk xs) (hA : A = none → c = 0) (hr : Rd w A .u8 xs) (hc : m ≤ c) (hm : m ≤ 1000000) :
    Calls Tryz.prog 10 #[.slice A m c] w fun e w' => e = .returned (.tuple #[.agg (readD xs).1.toArray, .agg (faultC (readD xs).2.1 (readD xs).2.2.1 (readD xs).2.2.2).toArray]) ∧ Below w.heap.size w w' := by
  obtain ⟨fs, hfs⟩ := undDesc
  obtain ⟨fsF, hfsF⟩ := undF
  have hS := HS.start NoF w
  have HXM := hid hxm
  have HOK := hid hok
  have HAA := hid hA
  have HR := hid hr
  have HSEP : Hd (∀ gr, w.heap.size ≤ gr → ∀ ad, A = some ad → xs ≠ [] → ad.block ≠ gr) := hid (fun gr hgr ad ha hne he => by
    obtain ⟨g, o, h⟩ := hr.at (List.length_pos_iff.2 hne)
    rw [ha] at h
    injection h with h
    subst h
    rw [ha] at hr
    have h2 := lt_of_cell (hr.cellAt 0 (List.length_pos_iff.2 hne))
    have he : g = gr := he
    omega)
  have HZ := hid zeroDesc
  have HZL := hid zeroD_length
  have HZO : Hd (∀ v ∈ zeroD, v.oneCell' = true) := hid (descC_one 0 0 0 (List.replicate 32 0) (List.replicate 32 0) (List.replicate 32 0))
  have HB0 := hid builtD0
  have hbadE := hid (fun h => refD_bad hxm h)
  have hfineE := hid (fun h => refD_fine hxm h)
  have HKL := hid zk_length
  have HDI := hid builtDi
  obtain ⟨rD, rc, rp, rn, hrd⟩ : ∃ a b c d, readD xs = (a, b, c, d) := ⟨_, _, _, _, rfl⟩
  have hreadE : Hd (readD xs = (rD, rc, rp, rn)) := hid hrd
  rw [hrd]
  clear hrd
  dsimp only
  generalize zk = Z at *
  clear hxm hok hA hr
  have HLE : Hd ((s0.a ≤ m) ∧ ((s1 m).a ≤ m) ∧ ((s2 m).a ≤ m) ∧ ((s3 m).a ≤ m) ∧ ((s4 m).a ≤ m) ∧ ((s5 m).a ≤ m)) := hid (by
    have h0 : s0.a ≤ m := Nat.zero_le _
    have h1 := step_le (k := 4) s0 h0
    have h2 := step_le (k := 4) _ h1
    have h3 := step_le (k := 4) _ h2
    have h4 := step_le (k := 32) _ h3
    have h5 := step_le (k := 32) _ h4
    exact ⟨h0, h1, h2, h3, h4, h5⟩)
  have HD : Hd (descC (rU32 xs s0) (rU32 xs (s1 m)) (rU32 xs (s2 m)) (rKey xs (s3 m)) (rKey xs (s4 m)) (rKey xs (s5 m)) = refD xs m) := hid rfl
  obtain ⟨D0, hD0⟩ : ∃ D0, Hd (zeroD = D0) := ⟨_, hid rfl⟩
  rw [hD0.out] at HZ HZL HZO HB0
  go_enter Tryz.func10, Tryz.ntmps10
  go_wp2_with (first
    | (refine alloc_blk rfl 27 rfl _ rfl D0 HZ.out ?_; intro gR w1 hga hba hBa hsa; replace hS : HS NoF w w1 [.blk gR 27 D0] := hS.pushBlk hBa hba hga; clear hga hba hBa hsa)
    | (refine alloc_blk rfl 44 rfl _ rfl (faultC 0 false 0) zeroF ?_; intro gF w2 hga hba hBa hsa; replace hS : HS NoF w w2 [.blk gF 44 (faultC 0 false 0), .blk gR 27 D0] := hS.pushBlk hBa hba hga; clear hga hba hBa hsa)
    | (refine build_to rfl 72 _ rfl #[.slice A m c, .int .i64 0, .int .i64 0, .bool false, .int .i64 0] (by rw [Array.toList_map]; exact builtR9 _ _ _) ?_)
    | (refine box_blk rfl 72 _ rfl _ rfl (r9C (.slice A m c) s0) rfl ?_; intro gr w3 hga hba hBa hsa; replace hS : HS NoF w w3 [.blk gr 72 (r9C (.slice A m c) s0), .blk gF 44 (faultC 0 false 0), .blk gR 27 D0] := hS.pushBlk hBa hba hga; clear hga hba hBa hsa)
    | fail)
  have hgr : w.heap.size ≤ gr := by
    rcases hS.own _ (List.mem_cons_self ..) gr rfl with h | h
    · exact h.elim
    · exact h
  refine (r9u32_calls gr m c xs A s0 _ (hS.blk 0 rfl) HXM.out HOK.out (hS.oldRd HR.out (fun _ _ _ h => h)) HAA.out (HSEP.out gr hgr) HLE.out.1 hc hm).mono ?_
  rintro e w40 ⟨rfl, hq⟩
  replace hS : HS NoF w w40 [.blk gr 72 (r9C (.slice A m c) (s1 m)), .blk gF 44 (faultC 0 false 0), .blk gR 27 D0] := HS.call (A := [.blk gr 72 (r9C (.slice A m c) s0)]) hS hq (fun j hj => ⟨_, List.mem_singleton.2 rfl, hj⟩)
  clear hq
  go_wp2_with (first
      | (refine build_to rfl 27 _ rfl (descC (rU32 xs s0) 0 0 Z Z Z).toArray (by rw [Array.toList_map]; exact HDI.out _) ?_)
      | (refine alloc_blk rfl 27 rfl _ rfl D0 HZ.out ?_; intro gd w5 hga hba hBa hsa; replace hS : HS NoF w w5 [.blk gd 27 D0, .blk gr 72 (r9C (.slice A m c) (s1 m)), .blk gF 44 (faultC 0 false 0), .blk gR 27 D0] := hS.pushBlk hBa hba hga; clear hga hba hBa hsa)
      | (refine hs_storeW hS 0 rfl rfl 27 _ _ rfl rfl (descC (rU32 xs s0) 0 0 Z Z Z) rfl (descC_one _ _ _ _ _ _) 99 sizeDesc (descC_length HKL.out HKL.out HKL.out) HZL.out _ rfl ?_; clear hS; intro w6 hS; replace hS : HS NoF w w6 [.blk gr 72 (r9C (.slice A m c) (s1 m)), .blk gd 27 (descC (rU32 xs s0) 0 0 Z Z Z), .blk gF 44 (faultC 0 false 0), .blk gR 27 D0] := hS.perm (List.Perm.swap _ _ _))
      | fail)
  refine (r9u32_calls gr m c xs A (s1 m) _ (hS.blk 0 rfl) HXM.out HOK.out (hS.oldRd HR.out (fun _ _ _ h => h)) HAA.out (HSEP.out gr hgr) HLE.out.2.1 hc hm).mono ?_
  rintro e w41 ⟨rfl, hq⟩
  replace hS : HS NoF w w41 [.blk gr 72 (r9C (.slice A m c) (s2 m)), .blk gd 27 (descC (rU32 xs s0) 0 0 Z Z Z), .blk gF 44 (faultC 0 false 0), .blk gR 27 D0] := HS.call (A := [.blk gr 72 (r9C (.slice A m c) (s1 m))]) hS hq (fun j hj => ⟨_, List.mem_singleton.2 rfl, hj⟩)
  clear hq
  go_wp2_with (first
      | (refine hs_store1 hS 1 rfl rfl 22 _ _ rfl 1 rfl (.int .u32 (rU32 xs (s1 m))) rfl rfl sizeU32D (by simp [descC]) _ rfl ?_; clear hS; intro w71 hS; replace hS : HS NoF w w71 [.blk gr 72 (r9C (.slice A m c) (s2 m)), .blk gd 27 (descC (rU32 xs s0) (rU32 xs (s1 m)) 0 Z Z Z), .blk gF 44 (faultC 0 false 0), .blk gR 27 D0] := hS)
      | fail)
  refine (r9u32_calls gr m c xs A (s2 m) _ (hS.blk 0 rfl) HXM.out HOK.out (hS.oldRd HR.out (fun _ _ _ h => h)) HAA.out (HSEP.out gr hgr) HLE.out.2.2.1 hc hm).mono ?_
  rintro e w42 ⟨rfl, hq⟩
  replace hS : HS NoF w w42 [.blk gr 72 (r9C (.slice A m c) (s3 m)), .blk gd 27 (descC (rU32 xs s0) (rU32 xs (s1 m)) 0 Z Z Z), .blk gF 44 (faultC 0 false 0), .blk gR 27 D0] := HS.call (A := [.blk gr 72 (r9C (.slice A m c) (s2 m))]) hS hq (fun j hj => ⟨_, List.mem_singleton.2 rfl, hj⟩)
  clear hq
  go_wp2_with (first
      | (refine hs_store1 hS 1 rfl rfl 22 _ _ rfl 2 rfl (.int .u32 (rU32 xs (s2 m))) rfl rfl sizeU32D (by simp [descC]) _ rfl ?_; clear hS; intro w72 hS; replace hS : HS NoF w w72 [.blk gr 72 (r9C (.slice A m c) (s3 m)), .blk gd 27 (descC (rU32 xs s0) (rU32 xs (s1 m)) (rU32 xs (s2 m)) Z Z Z), .blk gF 44 (faultC 0 false 0), .blk gR 27 D0] := hS)
      | fail)
  refine (r9key_calls gr m c xs A (s3 m) _ (hS.blk 0 rfl) HXM.out (hS.oldRd HR.out (fun _ _ _ h => h)) HAA.out (HSEP.out gr hgr) HLE.out.2.2.2.1 hc hm).mono ?_
  rintro e w43 ⟨rfl, hq⟩
  replace hS : HS NoF w w43 [.blk gr 72 (r9C (.slice A m c) (s4 m)), .blk gd 27 (descC (rU32 xs s0) (rU32 xs (s1 m)) (rU32 xs (s2 m)) Z Z Z), .blk gF 44 (faultC 0 false 0), .blk gR 27 D0] := HS.call (A := [.blk gr 72 (r9C (.slice A m c) (s3 m))]) hS hq (fun j hj => ⟨_, List.mem_singleton.2 rfl, hj⟩)
  clear hq
  go_wp2_with (first
      | (refine hs_storeN hS 1 rfl rfl 24 _ _ rfl 3 rfl (ints .u8 (rKey xs (s3 m))) rfl (ints_one' _ _) 32 infoKeyD (by rw [ints_length]; exact rKey_length _ _) (by rw [descC_length HKL.out HKL.out HKL.out]; decide) _ rfl ?_; clear hS; intro w73 hS; simp only [List.set_cons_succ, List.set_cons_zero] at hS; rw [descC_put3 HKL.out] at hS; replace hS : HS NoF w w73 [.blk gr 72 (r9C (.slice A m c) (s4 m)), .blk gd 27 (descC (rU32 xs s0) (rU32 xs (s1 m)) (rU32 xs (s2 m)) (rKey xs (s3 m)) Z Z), .blk gF 44 (faultC 0 false 0), .blk gR 27 D0] := hS)
      | fail)
  refine (r9key_calls gr m c xs A (s4 m) _ (hS.blk 0 rfl) HXM.out (hS.oldRd HR.out (fun _ _ _ h => h)) HAA.out (HSEP.out gr hgr) HLE.out.2.2.2.2.1 hc hm).mono ?_
  rintro e w44 ⟨rfl, hq⟩
  replace hS : HS NoF w w44 [.blk gr 72 (r9C (.slice A m c) (s5 m)), .blk gd 27 (descC (rU32 xs s0) (rU32 xs (s1 m)) (rU32 xs (s2 m)) (rKey xs (s3 m)) Z Z), .blk gF 44 (faultC 0 false 0), .blk gR 27 D0] := HS.call (A := [.blk gr 72 (r9C (.slice A m c) (s4 m))]) hS hq (fun j hj => ⟨_, List.mem_singleton.2 rfl, hj⟩)
  clear hq
  go_wp2_with (first
      | (refine hs_storeN hS 1 rfl rfl 25 _ _ rfl 35 rfl (ints .u8 (rKey xs (s4 m))) rfl (ints_one' _ _) 32 infoHashD (by rw [ints_length]; exact rKey_length _ _) (by rw [descC_length (rKey_length _ _) HKL.out HKL.out]; decide) _ rfl ?_; clear hS; intro w74 hS; simp only [List.set_cons_succ, List.set_cons_zero] at hS; rw [descC_put35 (rKey_length _ _) HKL.out] at hS; replace hS : HS NoF w w74 [.blk gr 72 (r9C (.slice A m c) (s5 m)), .blk gd 27 (descC (rU32 xs s0) (rU32 xs (s1 m)) (rU32 xs (s2 m)) (rKey xs (s3 m)) (rKey xs (s4 m)) Z), .blk gF 44 (faultC 0 false 0), .blk gR 27 D0] := hS)
      | fail)
  refine (r9key_calls gr m c xs A (s5 m) _ (hS.blk 0 rfl) HXM.out (hS.oldRd HR.out (fun _ _ _ h => h)) HAA.out (HSEP.out gr hgr) HLE.out.2.2.2.2.2 hc hm).mono ?_
  rintro e w45 ⟨rfl, hq⟩
  replace hS : HS NoF w w45 [.blk gr 72 (r9C (.slice A m c) (s6 m)), .blk gd 27 (descC (rU32 xs s0) (rU32 xs (s1 m)) (rU32 xs (s2 m)) (rKey xs (s3 m)) (rKey xs (s4 m)) Z), .blk gF 44 (faultC 0 false 0), .blk gR 27 D0] := HS.call (A := [.blk gr 72 (r9C (.slice A m c) (s5 m))]) hS hq (fun j hj => ⟨_, List.mem_singleton.2 rfl, hj⟩)
  clear hq
  go_wp2_with (first
      | (refine hs_storeN hS 1 rfl rfl 25 _ _ rfl 67 rfl (ints .u8 (rKey xs (s5 m))) rfl (ints_one' _ _) 32 infoHashD (by rw [ints_length]; exact rKey_length _ _) (by rw [descC_length (rKey_length _ _) (rKey_length _ _) HKL.out]; decide) _ rfl ?_; clear hS; intro w75 hS; simp only [List.set_cons_succ, List.set_cons_zero] at hS; rw [descC_put67 (rKey_length _ _) (rKey_length _ _) HKL.out] at hS; replace hS : HS NoF w w75 [.blk gr 72 (r9C (.slice A m c) (s6 m)), .blk gd 27 (descC (rU32 xs s0) (rU32 xs (s1 m)) (rU32 xs (s2 m)) (rKey xs (s3 m)) (rKey xs (s4 m)) (rKey xs (s5 m))), .blk gF 44 (faultC 0 false 0), .blk gR 27 D0] := hS)
      | fail)
  rw [HD.out] at hS
  have HDL : Hd ((refD xs m).length = 99) := hid (descC_length (rKey_length _ _) (rKey_length _ _) (rKey_length _ _))
  have HD1 : Hd (∀ v ∈ refD xs m, v.oneCell' = true) := hid (descC_one _ _ _ _ _ _)
  have HI1 : Hd ((refD xs m)[1]? = some (.int .u32 (((rU32 xs (s1 m)).toNat : Nat) : Int))) := hid (by rw [Int.toNat_of_nonneg (rU32_nonneg _ _)]; rfl)
  have HI2 : Hd ((refD xs m)[2]? = some (.int .u32 (((rU32 xs (s2 m)).toNat : Nat) : Int))) := hid (by rw [Int.toNat_of_nonneg (rU32_nonneg _ _)]; rfl)
  have HQ : Hd (m = 108 → refD xs m = descAt xs → (u32At xs 4 = (((rU32 xs (s1 m)).toNat : Nat) : Int)) ∧ (u32At xs 8 = (((rU32 xs (s2 m)).toNat : Nat) : Int))) := hid (fun h1 h2 => by
    obtain ⟨e1, e2, _⟩ := all_ok m (by omega)
    rw [Int.toNat_of_nonneg (rU32_nonneg _ _), Int.toNat_of_nonneg (rU32_nonneg _ _), e1, e2]
    unfold rU32
    simp only [HXM.out, h1]
    exact ⟨rfl, rfl⟩)
  obtain ⟨mz, hmz⟩ : ∃ k, (rU32 xs (s1 m)).toNat = k := ⟨_, rfl⟩
  obtain ⟨qz, hqz⟩ : ∃ k, (rU32 xs (s2 m)).toNat = k := ⟨_, rfl⟩
  rw [hmz] at HI1
  rw [hqz] at HI2
  rw [hmz, hqz] at HQ
  clear hmz hqz
  obtain ⟨D, hD⟩ : ∃ D, refD xs m = D := ⟨_, rfl⟩
  rw [hD] at hS HDL HD1 HI1 HI2 hfineE HQ
  clear hD HD HLE HSEP
  refine (r9over_calls gr m c A (s6 m) _ (hS.blk 0 rfl)).mono ?_
  rintro e w9 ⟨rfl, hq⟩
  replace hS : HS NoF w w9 [.blk gd 27 D, .blk gF 44 (faultC 0 false 0), .blk gR 27 D0] := HS.call (A := [.blk gr 72 (r9C (.slice A m c) (s6 m))]) hS hq (fun j hj => ⟨_, List.mem_singleton.2 rfl, hj⟩)
  clear hq
  by_cases hov : (rOver m (s6 m)).1 = 0
  · obtain ⟨h108, hro, hda⟩ := hfineE.out hov
    obtain ⟨hq1, hq2⟩ := HQ.out h108 hda
    rw [hro]
    dsimp only
    by_cases hgood : mz ≤ 600 ∧ 1 ≤ qz ∧ qz ≤ 64
    · have hrr : (rD, rc, rp, rn) = (D, (0 : Int), false, (0 : Int)) := by
        rw [← hreadE.out, hda]; unfold readD; rw [HXM.out, hq1, hq2, if_neg (by omega), if_neg (by omega), if_neg (by omega)]
      simp only [Prod.mk.injEq] at hrr
      obtain ⟨h1, rfl, rfl, rfl⟩ := hrr
      subst h1
      have HGD := hid fun w => good16_calls rD mz qz w HI1.out HI2.out
      rw [show decide (mz ≤ 600 ∧ 1 ≤ qz ∧ qz ≤ 64) = true from decide_eq_true hgood] at HGD
      clear hbadE hfineE HQ HI1 HI2 hreadE hda hq1 hq2 hro hov h108 hgood
      go_wp2_with (first
          | (refine alloc_blk rfl 44 rfl _ rfl (faultC 0 false 0) zeroF ?_; intro g6 w10 hga hba hBa hsa; replace hS := hS.pushBlk hBa hba hga; clear hga hba hBa hsa)
          | (refine hs_storeW hS 0 rfl rfl 44 _ _ rfl rfl (faultC 0 false 0) rfl (by simp [faultC, Value.oneCell']) 3 infoF rfl rfl _ rfl ?_; clear hS; intro w11 hS; simp only [List.set_cons_zero] at hS)
          | (refine hs_loadW hS 0 rfl rfl 44 _ rfl rfl 3 infoF rfl _ hfsF rfl _ rfl ?_)
          | (go_at_call 34; refine (fbad_calls 0 false 0 _).mono ?_; rintro e w12 ⟨rfl, hB⟩; replace hS := hS.below hB; clear hB)
          | (refine hs_loadW hS 1 rfl rfl 27 _ rfl rfl 99 sizeDesc HDL.out _ hfs rfl _ rfl ?_)
          | (go_at_call 18; refine (HGD.out _).mono ?_; rintro e w13 ⟨rfl, hB⟩; replace hS := hS.below hB; clear hB)
          | fail)
      replace hS : HS NoF w _ [.blk gR 27 D0, .blk gF 44 (faultC 0 false 0), .blk g6 44 (faultC 0 false 0), .blk gd 27 rD] := hS.perm (p4R _ _ _ _)
      try go_wp2_with fail
      refine wp_region_S (F := NoF) (w0 := w) (L0 := [.blk g6 44 (faultC 0 false 0), .blk gd 27 rD]) [] [2, 3]
        (fun iK u E => match iK with
          | _ => False)
        ([.blk gR 27 D0, .blk gF 44 (faultC 0 false 0)]) (by kernel_rfl) (by kernel_rfl) hS ?_
      show wpS _ _ _ _ _ _ _ _ _ _ [0, 1, 2, 3] _
      apply wpS_read (i := 0) rfl rfl ⟨_, (HS.drop2 (E := [.blk gR 27 D0, .blk gF 44 (faultC 0 false 0)]) (L := [.blk g6 44 (faultC 0 false 0), .blk gd 27 rD]) hS)⟩ rfl
      · intro w' hT'
        simp only [getElem_toArray, getElem_cons_zero, getElem_cons_succ]
        go_wp2_with (first
          | (refine hs_loadW hT' 0 rfl rfl 44 _ rfl rfl 3 infoF rfl _ hfsF rfl _ rfl ?_)
          | (refine hs_loadW hT' 1 rfl rfl 27 _ rfl rfl 99 sizeDesc HDL.out _ hfs rfl _ rfl ?_)
          | (refine build_to rfl 27 _ rfl rD.toArray (by rw [Array.toList_map]; exact HB0.out) ?_)
          | fail)
        first | exact ⟨rfl, rfl, rfl⟩ | rfl
      apply wpS_read (i := 1) rfl rfl ⟨_, (HS.drop2 (E := [.blk gR 27 D0, .blk gF 44 (faultC 0 false 0)]) (L := [.blk g6 44 (faultC 0 false 0), .blk gd 27 rD]) hS)⟩ rfl
      · intro w' hT'
        simp only [getElem_toArray, getElem_cons_zero, getElem_cons_succ]
        go_wp2_with (first
          | (refine hs_loadW hT' 0 rfl rfl 44 _ rfl rfl 3 infoF rfl _ hfsF rfl _ rfl ?_)
          | (refine hs_loadW hT' 1 rfl rfl 27 _ rfl rfl 99 sizeDesc HDL.out _ hfs rfl _ rfl ?_)
          | (refine build_to rfl 27 _ rfl rD.toArray (by rw [Array.toList_map]; exact HB0.out) ?_)
          | fail)
        first | exact ⟨rfl, rfl, rfl⟩ | rfl
      refine wpS_hard (i := 2) rfl rfl ?_
      intro w2 hT
      replace hT : HS NoF w w2 [.blk gR 27 D0, .blk gF 44 (faultC 0 false 0), .blk g6 44 (faultC 0 false 0), .blk gd 27 rD] := hT
      simp only [getElem_toArray, getElem_cons_zero, getElem_cons_succ]
      go_wp2_with (first
        | (refine hs_storeW hT 0 rfl rfl 27 _ _ rfl rfl rD rfl HD1.out 99 sizeDesc HDL.out HZL.out _ rfl ?_; clear hT; intro w20 hT; replace hT : HS NoF w w20 [.blk gR 27 rD, .blk gF 44 (faultC 0 false 0), .blk g6 44 (faultC 0 false 0), .blk gd 27 rD] := hT)
        | fail)
      refine HardP.mk' ([.blk gR 27 rD, .blk gF 44 (faultC 0 false 0)]) rfl ?_ ?_
      · exact hT
      clear hT
      refine wpS_hard (i := 3) rfl rfl ?_
      intro w3 hT
      replace hT : HS NoF w w3 [.blk gR 27 rD, .blk gF 44 (faultC 0 false 0), .blk g6 44 (faultC 0 false 0), .blk gd 27 rD] := hT
      simp only [getElem_toArray, getElem_cons_zero, getElem_cons_succ]
      go_wp2_with (first
        | (refine hs_storeW hT 1 rfl rfl 44 _ _ rfl rfl (faultC 0 false 0) rfl (by simp [faultC, Value.oneCell']) 3 infoF rfl rfl _ rfl ?_; clear hT; intro w21 hT; replace hT : HS NoF w w21 [.blk gR 27 rD, .blk gF 44 (faultC 0 false 0), .blk g6 44 (faultC 0 false 0), .blk gd 27 rD] := hT)
        | fail)
      refine HardP.mk' ([.blk gR 27 rD, .blk gF 44 (faultC 0 false 0)]) rfl ?_ ?_
      · exact hT
      clear hT
      refine wpS_end ?_
      intro wz hT
      try dsimp only
      clear hS
      have hS : HS NoF w wz [.blk gR 27 rD, .blk gF 44 (faultC 0 false 0), .blk g6 44 (faultC 0 false 0), .blk gd 27 rD] := hT
      clear hT
      go_wp2_with fail
      refine bodyPost_ret (results_str22 rfl _ _ gR gF rD (faultC 0 false 0) rfl rfl (hS.blk 0 rfl) (hS.blk 1 rfl) hfs (by rw [HDL.out]; exact sizeDesc) hfsF infoF) rfl ?_
      exact ⟨rfl, hS.bel⟩
    · have hrr : (rD, rc, rp, rn) = (D0, (102 : Int), false, (0 : Int)) := by
        rw [← hreadE.out, ← hD0.out]; unfold readD; rw [HXM.out, hq1, hq2, if_neg (by omega), if_neg (by omega), if_pos (by omega)]
      simp only [Prod.mk.injEq] at hrr
      obtain ⟨h1, rfl, rfl, rfl⟩ := hrr
      subst h1
      have HGD := hid fun w => good16_calls D mz qz w HI1.out HI2.out
      rw [show decide (mz ≤ 600 ∧ 1 ≤ qz ∧ qz ≤ 64) = false from decide_eq_false hgood] at HGD
      clear hbadE hfineE HQ HI1 HI2 hreadE hda hq1 hq2 hro hov h108 hgood
      go_wp2_with (first
          | (refine alloc_blk rfl 44 rfl _ rfl (faultC 0 false 0) zeroF ?_; intro g6 w10 hga hba hBa hsa; replace hS := hS.pushBlk hBa hba hga; clear hga hba hBa hsa)
          | (refine hs_storeW hS 0 rfl rfl 44 _ _ rfl rfl (faultC 0 false 0) rfl (by simp [faultC, Value.oneCell']) 3 infoF rfl rfl _ rfl ?_; clear hS; intro w11 hS; simp only [List.set_cons_zero] at hS)
          | (refine hs_loadW hS 0 rfl rfl 44 _ rfl rfl 3 infoF rfl _ hfsF rfl _ rfl ?_)
          | (go_at_call 34; refine (fbad_calls 0 false 0 _).mono ?_; rintro e w12 ⟨rfl, hB⟩; replace hS := hS.below hB; clear hB)
          | (refine hs_loadW hS 1 rfl rfl 27 _ rfl rfl 99 sizeDesc HDL.out _ hfs rfl _ rfl ?_)
          | (go_at_call 18; refine (HGD.out _).mono ?_; rintro e w13 ⟨rfl, hB⟩; replace hS := hS.below hB; clear hB)
          | (refine build_to rfl 27 _ rfl rD.toArray (by rw [Array.toList_map]; exact HB0.out) ?_)
          | (go_at_call 35; refine (bare_calls 102 _).mono ?_; rintro e w14 ⟨rfl, hB⟩; replace hS := hS.below hB; clear hB)
          | (refine hs_storeW hS 3 rfl rfl 27 _ _ rfl rfl rD rfl HZO.out 99 sizeDesc HZL.out HZL.out _ rfl ?_; clear hS; intro w15 hS; simp only [List.set_cons_succ, List.set_cons_zero] at hS)
          | (refine hs_storeW hS 2 rfl rfl 44 _ _ rfl rfl (faultC 102 false 0) rfl (by simp [faultC, Value.oneCell']) 3 infoF rfl rfl _ rfl ?_; clear hS; intro w16 hS; simp only [List.set_cons_succ, List.set_cons_zero] at hS)
          | fail)
      refine bodyPost_ret (results_str22 rfl _ _ gR gF rD (faultC 102 false 0) rfl rfl (hS.blk 3 rfl) (hS.blk 2 rfl) hfs (by rw [HZL.out]; exact sizeDesc) hfsF infoF) rfl ?_
      exact ⟨rfl, hS.bel⟩
  · have hrr : (rD, rc, rp, rn) = (D0, rOver m (s6 m)) := by rw [← hreadE.out, hbadE.out hov, hD0.out]
    simp only [Prod.mk.injEq] at hrr
    obtain ⟨h1, h2⟩ := hrr
    rw [← h2] at hov ⊢
    subst h1
    dsimp only at hov ⊢
    have hb1 : Hd ((!(rc == 0)) = true) := hid (by simpa using hov)
    clear hbadE hfineE HQ HI1 HI2 hreadE h2 hov
    go_wp2_with (first
        | (refine alloc_blk rfl 44 rfl _ rfl (faultC 0 false 0) zeroF ?_; intro g6 w10 hga hba hBa hsa; replace hS := hS.pushBlk hBa hba hga; clear hga hba hBa hsa)
        | (refine hs_storeW hS 0 rfl rfl 44 _ _ rfl rfl (faultC rc rp rn) rfl (by simp [faultC, Value.oneCell']) 3 infoF rfl rfl _ rfl ?_; clear hS; intro w11 hS; simp only [List.set_cons_zero] at hS)
        | (refine hs_loadW hS 0 rfl rfl 44 _ rfl rfl 3 infoF rfl _ hfsF rfl _ rfl ?_)
        | (go_at_call 34; refine (fbad_calls rc rp rn _).mono ?_; rintro e w12 ⟨rfl, hB⟩; rw [hb1.out]; replace hS := hS.below hB; clear hB)
        | fail)
    replace hS : HS NoF w _ [.blk gR 27 rD, .blk gF 44 (faultC 0 false 0), .blk g6 44 (faultC rc rp rn), .blk gd 27 D] := hS.perm (p4R _ _ _ _)
    try go_wp2_with fail
    refine wp_region_S (F := NoF) (w0 := w) (L0 := [.blk g6 44 (faultC rc rp rn), .blk gd 27 D]) [] [2, 3]
      (fun iK u E => match iK with
        | _ => False)
      ([.blk gR 27 rD, .blk gF 44 (faultC 0 false 0)]) (by kernel_rfl) (by kernel_rfl) hS ?_
    show wpS _ _ _ _ _ _ _ _ _ _ [0, 1, 2, 3] _
    apply wpS_read (i := 0) rfl rfl ⟨_, (HS.drop2 (E := [.blk gR 27 rD, .blk gF 44 (faultC 0 false 0)]) (L := [.blk g6 44 (faultC rc rp rn), .blk gd 27 D]) hS)⟩ rfl
    · intro w' hT'
      simp only [getElem_toArray, getElem_cons_zero, getElem_cons_succ]
      go_wp2_with (first
        | (refine hs_loadW hT' 0 rfl rfl 44 _ rfl rfl 3 infoF rfl _ hfsF rfl _ rfl ?_)
        | (refine hs_loadW hT' 1 rfl rfl 27 _ rfl rfl 99 sizeDesc HDL.out _ hfs rfl _ rfl ?_)
        | (refine build_to rfl 27 _ rfl rD.toArray (by rw [Array.toList_map]; exact HB0.out) ?_)
        | fail)
      first | exact ⟨rfl, rfl, rfl⟩ | rfl
    apply wpS_read (i := 1) rfl rfl ⟨_, (HS.drop2 (E := [.blk gR 27 rD, .blk gF 44 (faultC 0 false 0)]) (L := [.blk g6 44 (faultC rc rp rn), .blk gd 27 D]) hS)⟩ rfl
    · intro w' hT'
      simp only [getElem_toArray, getElem_cons_zero, getElem_cons_succ]
      go_wp2_with (first
        | (refine hs_loadW hT' 0 rfl rfl 44 _ rfl rfl 3 infoF rfl _ hfsF rfl _ rfl ?_)
        | (refine hs_loadW hT' 1 rfl rfl 27 _ rfl rfl 99 sizeDesc HDL.out _ hfs rfl _ rfl ?_)
        | (refine build_to rfl 27 _ rfl rD.toArray (by rw [Array.toList_map]; exact HB0.out) ?_)
        | fail)
      first | exact ⟨rfl, rfl, rfl⟩ | rfl
    refine wpS_hard (i := 2) rfl rfl ?_
    intro w2 hT
    replace hT : HS NoF w w2 [.blk gR 27 rD, .blk gF 44 (faultC 0 false 0), .blk g6 44 (faultC rc rp rn), .blk gd 27 D] := hT
    simp only [getElem_toArray, getElem_cons_zero, getElem_cons_succ]
    go_wp2_with (first
      | (refine hs_storeW hT 0 rfl rfl 27 _ _ rfl rfl rD rfl HZO.out 99 sizeDesc HZL.out HZL.out _ rfl ?_; clear hT; intro w20 hT; replace hT : HS NoF w w20 [.blk gR 27 rD, .blk gF 44 (faultC 0 false 0), .blk g6 44 (faultC rc rp rn), .blk gd 27 D] := hT)
      | fail)
    refine HardP.mk' ([.blk gR 27 rD, .blk gF 44 (faultC 0 false 0)]) rfl ?_ ?_
    · exact hT
    clear hT
    refine wpS_hard (i := 3) rfl rfl ?_
    intro w3 hT
    replace hT : HS NoF w w3 [.blk gR 27 rD, .blk gF 44 (faultC 0 false 0), .blk g6 44 (faultC rc rp rn), .blk gd 27 D] := hT
    simp only [getElem_toArray, getElem_cons_zero, getElem_cons_succ]
    go_wp2_with (first
      | (refine hs_storeW hT 1 rfl rfl 44 _ _ rfl rfl (faultC rc rp rn) rfl (by simp [faultC, Value.oneCell']) 3 infoF rfl rfl _ rfl ?_; clear hT; intro w21 hT; replace hT : HS NoF w w21 [.blk gR 27 rD, .blk gF 44 (faultC rc rp rn), .blk g6 44 (faultC rc rp rn), .blk gd 27 D] := hT)
      | fail)
    refine HardP.mk' ([.blk gR 27 rD, .blk gF 44 (faultC rc rp rn)]) rfl ?_ ?_
    · exact hT
    clear hT
    refine wpS_end ?_
    intro wz hT
    try dsimp only
    clear hS
    have hS : HS NoF w wz [.blk gR 27 rD, .blk gF 44 (faultC rc rp rn), .blk g6 44 (faultC rc rp rn), .blk gd 27 D] := hT
    clear hT
    go_wp2_with fail
    refine bodyPost_ret (results_str22 rfl _ _ gR gF rD (faultC rc rp rn) rfl rfl (hS.blk 0 rfl) (hS.blk 1 rfl) hfs (by rw [HZL.out]; exact sizeDesc) hfsF infoF) rfl ?_
    exact ⟨rfl, hS.bel⟩
end Go.Proofs.YtlikinglgegclaaGreatDoor
/- courierref16: chunks, Total, Place; what is out of its range. -/
namespace Go.Proofs.YtlikinglgegclaaGreatDoor
open Go.RowKit Go.Cour
set_option maxHeartbeats 400000 in
set_option maxRecDepth 100000 in
theorem chunks16_calls (D : List Value) (m q N : Nat) (w : World) (h1 : D[1]? = some (.int .u32 (m : Int))) (h2 : D[2]? = some (.int .u32 (q : Int))) (hm : m ≤ 1000000) (hq : q ≤ 1000000) (hN : countI m q = (N : Int)) :
    Calls Tryz.prog 39 #[.agg D.toArray] w fun e w' => e = .returned (.int .i64 (N : Int)) ∧ Below w.heap.size w w' := by
  have H1 := hid h1
  have H2 := hid h2
  have HN := hid hN
  have hS := HS.start NoF w
  clear h1 h2 hN
  go_enter Tryz.func39, Tryz.ntmps39
  go_wp2_with (first
    | (refine box_blk rfl 27 _ rfl _ rfl D rfl ?_; intro g1 w1 hga hba hBa hsa; replace hS : HS NoF w w1 [.blk g1 27 D] := hS.pushBlk hBa hba hga; clear hga hba hBa hsa; have c1 : w1.cell? ⟨g1, 1, none⟩ = _ := (hS.cell 0 rfl 1).trans H1.out; have c2 : w1.cell? ⟨g1, 2, none⟩ = _ := (hS.cell 0 rfl 2).trans H2.out)
    | (go_at_call 65; refine (count16_calls (m : Int) (q : Int) _ (by omega) (by omega)).mono ?_; rintro e w6 ⟨rfl, rfl⟩; rw [HN.out])
    | fail)
  go_ret
  exact ⟨rfl, hS.bel⟩
set_option maxHeartbeats 400000 in
set_option maxRecDepth 100000 in
theorem total16_calls (D : List Value) (m q N : Nat) (w : World) (hl : D.length = 99) (h1 : D[1]? = some (.int .u32 (m : Int))) (h2 : D[2]? = some (.int .u32 (q : Int))) (hm : m ≤ 1000) (hq : q ≤ 1000000) (hN : countI m q = (N : Int)) (hN2 : N ≤ 1000) :
    Calls Tryz.prog 22 #[.agg D.toArray] w fun e w' => e = .returned (.int .i64 ((m : Int) + 48 * N)) ∧ Below w.heap.size w w' := by
  have HL := hid hl
  have H1 := hid h1
  have H2 := hid h2
  have HN := hid hN
  have hS := HS.start NoF w
  clear hl h1 h2 hN
  go_enter Tryz.func22, Tryz.ntmps22
  go_wp2_with (first
    | (refine box_blk rfl 27 _ rfl _ rfl D rfl ?_; intro g1 w1 hga hba hBa hsa; replace hS : HS NoF w w1 [.blk g1 27 D] := hS.pushBlk hBa hba hga; clear hga hba hBa hsa)
    | fail)
  try go_wp2_with fail
  refine wp_region_S (F := NoF) (w0 := w) (L0 := [.blk g1 27 D]) [4] []
    (fun iK u E => match iK with
      | 4 => u = .int .i64 (N : Int) ∧ E = []
      | _ => False)
    ([]) (by kernel_rfl) (by kernel_rfl) hS ?_
  show wpS _ _ _ _ _ _ _ _ _ _ [0, 1, 2, 3, 4, 5, 6, 7] _
  apply wpS_read (i := 0) rfl rfl ⟨_, hS⟩ rfl
  · intro w' hT'
    simp only [getElem_toArray, getElem_cons_zero, getElem_cons_succ]
    go_wp2_with fail
    first | exact ⟨rfl, rfl, rfl⟩ | rfl
  apply wpS_read (i := 1) rfl rfl ⟨_, hS⟩ rfl
  · intro w' hT'
    simp only [getElem_toArray, getElem_cons_zero, getElem_cons_succ]
    have c1 : w'.cell? ⟨g1, 1, none⟩ = _ := (hT'.cell 0 rfl 1).trans H1.out
    go_wp2_with (first
      | (refine hs_loadW hT' 0 rfl rfl 27 _ rfl rfl 99 sizeDesc HL.out _ undDesc.choose_spec rfl _ rfl ?_)
      | fail)
    first | exact ⟨rfl, rfl, rfl⟩ | rfl
  apply wpS_read (i := 2) rfl rfl ⟨_, hS⟩ rfl
  · intro w' hT'
    simp only [getElem_toArray, getElem_cons_zero, getElem_cons_succ]
    go_wp2_with (first
      | (refine hs_loadW hT' 0 rfl rfl 27 _ rfl rfl 99 sizeDesc HL.out _ undDesc.choose_spec rfl _ rfl ?_)
      | fail)
    first | exact ⟨rfl, rfl, rfl⟩ | rfl
  apply wpS_read (i := 3) rfl rfl ⟨_, hS⟩ rfl
  · intro w' hT'
    simp only [getElem_toArray, getElem_cons_zero, getElem_cons_succ]
    have c1 : w'.cell? ⟨g1, 1, none⟩ = _ := (hT'.cell 0 rfl 1).trans H1.out
    go_wp2_with (first
      | (refine hs_loadW hT' 0 rfl rfl 27 _ rfl rfl 99 sizeDesc HL.out _ undDesc.choose_spec rfl _ rfl ?_)
      | fail)
    first | exact ⟨rfl, rfl, rfl⟩ | rfl
  refine wpS_soft (i := 4) rfl rfl rfl (Nat.le_of_ble_eq_true rfl) ?_ ?_
  · intro w' hT
    simp only [getElem_toArray, getElem_cons_zero, getElem_cons_succ]
    go_wp2_with (first
      | (go_at_call 39; refine (chunks16_calls D m q N _ H1.out H2.out (by omega) (by omega) HN.out).mono ?_; rintro e w6 ⟨rfl, hB6⟩)
      | fail)
    exact SoftP.mk' (.int .i64 (N : Int)) ([]) rfl (⟨rfl, rfl⟩) (hT.below hB6) (hB6) (fun _ h => by cases h)
  intro u4 E4 hK4
  obtain ⟨rfl, rfl⟩ := hK4
  simp only [Act.put, List.setIfInBounds_toArray, List.set_cons_zero, List.set_cons_succ]
  apply wpS_read (i := 5) rfl rfl ⟨_, hS⟩ rfl
  · intro w' hT'
    simp only [getElem_toArray, getElem_cons_zero, getElem_cons_succ]
    go_wp2_with (first
      | (refine hs_loadW hT' 0 rfl rfl 27 _ rfl rfl 99 sizeDesc HL.out _ undDesc.choose_spec rfl _ rfl ?_)
      | fail)
    first | exact ⟨rfl, rfl, rfl⟩ | rfl
  apply wpS_read (i := 6) rfl rfl ⟨_, hS⟩ rfl
  · intro w' hT'
    simp only [getElem_toArray, getElem_cons_zero, getElem_cons_succ]
    go_wp2_with (first
      | (refine hs_loadW hT' 0 rfl rfl 27 _ rfl rfl 99 sizeDesc HL.out _ undDesc.choose_spec rfl _ rfl ?_)
      | fail)
    first | exact ⟨rfl, rfl, rfl⟩ | rfl
  apply wpS_read (i := 7) rfl rfl ⟨_, hS⟩ rfl
  · intro w' hT'
    simp only [getElem_toArray, getElem_cons_zero, getElem_cons_succ]
    go_wp2_with fail
    first | exact ⟨rfl, rfl, rfl⟩ | rfl
  refine wpS_end ?_
  intro wz hT
  try dsimp only
  clear hS
  have hS : HS NoF w wz [.blk g1 27 D] := hT
  clear hT
  go_wp2_with fail
  go_ret
  exact ⟨rfl, hS.bel⟩
set_option maxHeartbeats 1000000 in
set_option maxRecDepth 100000 in
theorem place16_calls (D : List Value) (m q N i f t p : Nat) (w : World) (hl : D.length = 99) (h1 : D[1]? = some (.int .u32 (m : Int))) (h2 : D[2]? = some (.int .u32 (q : Int))) (hm : m ≤ 1000) (hq : q ≤ 1000) (hN : countI m q = (N : Int)) (hN2 : N ≤ 1000) (hi : i < N)
    (hf : i * q = f) (hfm : f ≤ m) (ht : min q (m - f) = t) (hp : N * 32 + i * 16 + f = p) :
    Calls Tryz.prog 13 #[.agg D.toArray, .int .i64 (i : Int)] w fun e w' => e = .returned (.tuple #[.int .i64 (p : Int), .int .i64 ((t : Int) + 16)]) ∧ Below w.heap.size w w' := by
  have HL := hid hl
  have H1 := hid h1
  have H2 := hid h2
  have HN := hid hN
  have HT := hid ht
  have hS := HS.start NoF w
  have hfi : (i : Int) * (q : Int) = (f : Int) := by rw [← hf]; simp
  have hli : (i : Int) < N := by omega
  obtain ⟨y, hy, hy2⟩ : ∃ y : Nat, (i : Int) * ((q : Int) + 16) = (y : Int) ∧ y = f + i * 16 := ⟨f + i * 16, by rw [Int.mul_add, hfi]; omega, rfl⟩
  have HP : Hd ((p : Int) = 32 * N + y) := hid (by omega)
  have hyb : y ≤ 100000 := by omega
  clear hl h1 h2 hN hf hp ht hy2
  by_cases hc : q ≤ m - f
  · have ht2 : t = q := by have := HT.out; omega
    have hmin : (q : Int) ≤ (m : Int) - f := by omega
    clear hc
    go_enter Tryz.func13, Tryz.ntmps13
    go_wp2_with (first
        | (refine box_blk rfl 27 _ rfl _ rfl D rfl ?_; intro g1 w1 hga hba hBa hsa; replace hS : HS NoF w w1 [.blk g1 27 D] := hS.pushBlk hBa hba hga; clear hga hba hBa hsa)
        | (refine hs_loadW hS 0 rfl rfl 27 _ rfl rfl 99 sizeDesc HL.out _ undDesc.choose_spec rfl _ rfl ?_)
        | (go_at_call 39; refine (chunks16_calls D m q N _ H1.out H2.out (by omega) (by omega) HN.out).mono ?_; rintro e w6 ⟨rfl, hB6⟩; replace hS := hS.below hB6; clear hB6; have c2 : w6.cell? ⟨g1, 2, none⟩ = _ := (hS.cell 0 rfl 2).trans H2.out)
        | fail)
    clear c2
    try go_wp2_with fail
    refine wp_region_S (F := NoF) (w0 := w) (L0 := [.blk g1 27 D]) [] []
      (fun iK u E => match iK with
        | _ => False)
      ([]) (by kernel_rfl) (by kernel_rfl) hS ?_
    show wpS _ _ _ _ _ _ _ _ _ _ [0, 1, 2, 3, 4, 5, 6, 7, 8, 9, 10, 11, 12, 13, 14, 15, 16] _
    apply wpS_read (i := 0) rfl rfl ⟨_, hS⟩ rfl
    · intro w' hT'
      simp only [getElem_toArray, getElem_cons_zero, getElem_cons_succ]
      go_wp2_with fail
      first | exact ⟨rfl, rfl, rfl⟩ | rfl
    apply wpS_read (i := 1) rfl rfl ⟨_, hS⟩ rfl
    · intro w' hT'
      simp only [getElem_toArray, getElem_cons_zero, getElem_cons_succ]
      go_wp2_with fail
      first | exact ⟨rfl, rfl, rfl⟩ | rfl
    apply wpS_read (i := 2) rfl rfl ⟨_, hS⟩ rfl
    · intro w' hT'
      simp only [getElem_toArray, getElem_cons_zero, getElem_cons_succ]
      have c1 : w'.cell? ⟨g1, 1, none⟩ = _ := (hT'.cell 0 rfl 1).trans H1.out
      have c2 : w'.cell? ⟨g1, 2, none⟩ = _ := (hT'.cell 0 rfl 2).trans H2.out
      go_wp2_with fail
      first | exact ⟨rfl, rfl, rfl⟩ | rfl
    apply wpS_read (i := 3) rfl rfl ⟨_, hS⟩ rfl
    · intro w' hT'
      simp only [getElem_toArray, getElem_cons_zero, getElem_cons_succ]
      go_wp2_with fail
      first | exact ⟨rfl, rfl, rfl⟩ | rfl
    apply wpS_read (i := 4) rfl rfl ⟨_, hS⟩ rfl
    · intro w' hT'
      simp only [getElem_toArray, getElem_cons_zero, getElem_cons_succ]
      go_wp2_with fail
      first | exact ⟨rfl, rfl, rfl⟩ | rfl
    apply wpS_read (i := 5) rfl rfl ⟨_, hS⟩ rfl
    · intro w' hT'
      simp only [getElem_toArray, getElem_cons_zero, getElem_cons_succ]
      have c1 : w'.cell? ⟨g1, 1, none⟩ = _ := (hT'.cell 0 rfl 1).trans H1.out
      have c2 : w'.cell? ⟨g1, 2, none⟩ = _ := (hT'.cell 0 rfl 2).trans H2.out
      go_wp2_with fail
      first | exact ⟨rfl, rfl, rfl⟩ | rfl
    apply wpS_read (i := 6) rfl rfl ⟨_, hS⟩ rfl
    · intro w' hT'
      simp only [getElem_toArray, getElem_cons_zero, getElem_cons_succ]
      go_wp2_with fail
      first | exact ⟨rfl, rfl, rfl⟩ | rfl
    apply wpS_read (i := 7) rfl rfl ⟨_, hS⟩ rfl
    · intro w' hT'
      simp only [getElem_toArray, getElem_cons_zero, getElem_cons_succ]
      go_wp2_with fail
      first | exact ⟨rfl, rfl, rfl⟩ | rfl
    apply wpS_read (i := 8) rfl rfl ⟨_, hS⟩ rfl
    · intro w' hT'
      simp only [getElem_toArray, getElem_cons_zero, getElem_cons_succ]
      go_wp2_with fail
      first | exact ⟨rfl, rfl, rfl⟩ | rfl
    apply wpS_read (i := 9) rfl rfl ⟨_, hS⟩ rfl
    · intro w' hT'
      simp only [getElem_toArray, getElem_cons_zero, getElem_cons_succ]
      have c1 : w'.cell? ⟨g1, 1, none⟩ = _ := (hT'.cell 0 rfl 1).trans H1.out
      have c2 : w'.cell? ⟨g1, 2, none⟩ = _ := (hT'.cell 0 rfl 2).trans H2.out
      go_wp2_with fail
      first | exact ⟨rfl, rfl, rfl⟩ | rfl
    apply wpS_read (i := 10) rfl rfl ⟨_, hS⟩ rfl
    · intro w' hT'
      simp only [getElem_toArray, getElem_cons_zero, getElem_cons_succ]
      go_wp2_with fail
      first | exact ⟨rfl, rfl, rfl⟩ | rfl
    apply wpS_read (i := 11) rfl rfl ⟨_, hS⟩ rfl
    · intro w' hT'
      simp only [getElem_toArray, getElem_cons_zero, getElem_cons_succ]
      go_wp2_with fail
      first | exact ⟨rfl, rfl, rfl⟩ | rfl
    apply wpS_read (i := 12) rfl rfl ⟨_, hS⟩ rfl
    · intro w' hT'
      simp only [getElem_toArray, getElem_cons_zero, getElem_cons_succ]
      go_wp2_with fail
      first | exact ⟨rfl, rfl, rfl⟩ | rfl
    apply wpS_read (i := 13) rfl rfl ⟨_, hS⟩ rfl
    · intro w' hT'
      simp only [getElem_toArray, getElem_cons_zero, getElem_cons_succ]
      go_wp2_with fail
      first | exact ⟨rfl, rfl, rfl⟩ | rfl
    apply wpS_read (i := 14) rfl rfl ⟨_, hS⟩ rfl
    · intro w' hT'
      simp only [getElem_toArray, getElem_cons_zero, getElem_cons_succ]
      go_wp2_with fail
      first | exact ⟨rfl, rfl, rfl⟩ | rfl
    apply wpS_read (i := 15) rfl rfl ⟨_, hS⟩ rfl
    · intro w' hT'
      simp only [getElem_toArray, getElem_cons_zero, getElem_cons_succ]
      go_wp2_with fail
      first | exact ⟨rfl, rfl, rfl⟩ | rfl
    apply wpS_read (i := 16) rfl rfl ⟨_, hS⟩ rfl
    · intro w' hT'
      simp only [getElem_toArray, getElem_cons_zero, getElem_cons_succ]
      go_wp2_with fail
      first | exact ⟨rfl, rfl, rfl⟩ | rfl
    refine wpS_end ?_
    intro wz hT
    try dsimp only
    clear hS
    have hS : HS NoF w wz [.blk g1 27 D] := hT
    clear hT
    go_wp2_with fail
    refine bodyPost_ret (Go.Cour.results_tmp2 rfl _ _ rfl rfl) rfl ⟨by show Ending.returned (.tuple #[.int .i64 (32 * (N : Int) + (y : Int)), .int .i64 (min (q : Int) ((m : Int) - f) + 16)]) = _; rw [HP.out, show min (q : Int) ((m : Int) - f) = (t : Int) by omega], hS.bel⟩
  · have ht2 : (t : Int) = (m : Int) - f := by have := HT.out; omega
    have hmin : ¬ (q : Int) ≤ (m : Int) - f := by omega
    clear hc
    go_enter Tryz.func13, Tryz.ntmps13
    go_wp2_with (first
        | (refine box_blk rfl 27 _ rfl _ rfl D rfl ?_; intro g1 w1 hga hba hBa hsa; replace hS : HS NoF w w1 [.blk g1 27 D] := hS.pushBlk hBa hba hga; clear hga hba hBa hsa)
        | (refine hs_loadW hS 0 rfl rfl 27 _ rfl rfl 99 sizeDesc HL.out _ undDesc.choose_spec rfl _ rfl ?_)
        | (go_at_call 39; refine (chunks16_calls D m q N _ H1.out H2.out (by omega) (by omega) HN.out).mono ?_; rintro e w6 ⟨rfl, hB6⟩; replace hS := hS.below hB6; clear hB6; have c2 : w6.cell? ⟨g1, 2, none⟩ = _ := (hS.cell 0 rfl 2).trans H2.out)
        | fail)
    clear c2
    try go_wp2_with fail
    refine wp_region_S (F := NoF) (w0 := w) (L0 := [.blk g1 27 D]) [] []
      (fun iK u E => match iK with
        | _ => False)
      ([]) (by kernel_rfl) (by kernel_rfl) hS ?_
    show wpS _ _ _ _ _ _ _ _ _ _ [0, 1, 2, 3, 4, 5, 6, 7, 8, 9, 10, 11, 12, 13, 14, 15, 16] _
    apply wpS_read (i := 0) rfl rfl ⟨_, hS⟩ rfl
    · intro w' hT'
      simp only [getElem_toArray, getElem_cons_zero, getElem_cons_succ]
      go_wp2_with fail
      first | exact ⟨rfl, rfl, rfl⟩ | rfl
    apply wpS_read (i := 1) rfl rfl ⟨_, hS⟩ rfl
    · intro w' hT'
      simp only [getElem_toArray, getElem_cons_zero, getElem_cons_succ]
      go_wp2_with fail
      first | exact ⟨rfl, rfl, rfl⟩ | rfl
    apply wpS_read (i := 2) rfl rfl ⟨_, hS⟩ rfl
    · intro w' hT'
      simp only [getElem_toArray, getElem_cons_zero, getElem_cons_succ]
      have c1 : w'.cell? ⟨g1, 1, none⟩ = _ := (hT'.cell 0 rfl 1).trans H1.out
      have c2 : w'.cell? ⟨g1, 2, none⟩ = _ := (hT'.cell 0 rfl 2).trans H2.out
      go_wp2_with fail
      first | exact ⟨rfl, rfl, rfl⟩ | rfl
    apply wpS_read (i := 3) rfl rfl ⟨_, hS⟩ rfl
    · intro w' hT'
      simp only [getElem_toArray, getElem_cons_zero, getElem_cons_succ]
      go_wp2_with fail
      first | exact ⟨rfl, rfl, rfl⟩ | rfl
    apply wpS_read (i := 4) rfl rfl ⟨_, hS⟩ rfl
    · intro w' hT'
      simp only [getElem_toArray, getElem_cons_zero, getElem_cons_succ]
      go_wp2_with fail
      first | exact ⟨rfl, rfl, rfl⟩ | rfl
    apply wpS_read (i := 5) rfl rfl ⟨_, hS⟩ rfl
    · intro w' hT'
      simp only [getElem_toArray, getElem_cons_zero, getElem_cons_succ]
      have c1 : w'.cell? ⟨g1, 1, none⟩ = _ := (hT'.cell 0 rfl 1).trans H1.out
      have c2 : w'.cell? ⟨g1, 2, none⟩ = _ := (hT'.cell 0 rfl 2).trans H2.out
      go_wp2_with fail
      first | exact ⟨rfl, rfl, rfl⟩ | rfl
    apply wpS_read (i := 6) rfl rfl ⟨_, hS⟩ rfl
    · intro w' hT'
      simp only [getElem_toArray, getElem_cons_zero, getElem_cons_succ]
      go_wp2_with fail
      first | exact ⟨rfl, rfl, rfl⟩ | rfl
    apply wpS_read (i := 7) rfl rfl ⟨_, hS⟩ rfl
    · intro w' hT'
      simp only [getElem_toArray, getElem_cons_zero, getElem_cons_succ]
      go_wp2_with fail
      first | exact ⟨rfl, rfl, rfl⟩ | rfl
    apply wpS_read (i := 8) rfl rfl ⟨_, hS⟩ rfl
    · intro w' hT'
      simp only [getElem_toArray, getElem_cons_zero, getElem_cons_succ]
      go_wp2_with fail
      first | exact ⟨rfl, rfl, rfl⟩ | rfl
    apply wpS_read (i := 9) rfl rfl ⟨_, hS⟩ rfl
    · intro w' hT'
      simp only [getElem_toArray, getElem_cons_zero, getElem_cons_succ]
      have c1 : w'.cell? ⟨g1, 1, none⟩ = _ := (hT'.cell 0 rfl 1).trans H1.out
      have c2 : w'.cell? ⟨g1, 2, none⟩ = _ := (hT'.cell 0 rfl 2).trans H2.out
      go_wp2_with fail
      first | exact ⟨rfl, rfl, rfl⟩ | rfl
    apply wpS_read (i := 10) rfl rfl ⟨_, hS⟩ rfl
    · intro w' hT'
      simp only [getElem_toArray, getElem_cons_zero, getElem_cons_succ]
      go_wp2_with fail
      first | exact ⟨rfl, rfl, rfl⟩ | rfl
    apply wpS_read (i := 11) rfl rfl ⟨_, hS⟩ rfl
    · intro w' hT'
      simp only [getElem_toArray, getElem_cons_zero, getElem_cons_succ]
      go_wp2_with fail
      first | exact ⟨rfl, rfl, rfl⟩ | rfl
    apply wpS_read (i := 12) rfl rfl ⟨_, hS⟩ rfl
    · intro w' hT'
      simp only [getElem_toArray, getElem_cons_zero, getElem_cons_succ]
      go_wp2_with fail
      first | exact ⟨rfl, rfl, rfl⟩ | rfl
    apply wpS_read (i := 13) rfl rfl ⟨_, hS⟩ rfl
    · intro w' hT'
      simp only [getElem_toArray, getElem_cons_zero, getElem_cons_succ]
      go_wp2_with fail
      first | exact ⟨rfl, rfl, rfl⟩ | rfl
    apply wpS_read (i := 14) rfl rfl ⟨_, hS⟩ rfl
    · intro w' hT'
      simp only [getElem_toArray, getElem_cons_zero, getElem_cons_succ]
      go_wp2_with fail
      first | exact ⟨rfl, rfl, rfl⟩ | rfl
    apply wpS_read (i := 15) rfl rfl ⟨_, hS⟩ rfl
    · intro w' hT'
      simp only [getElem_toArray, getElem_cons_zero, getElem_cons_succ]
      go_wp2_with fail
      first | exact ⟨rfl, rfl, rfl⟩ | rfl
    apply wpS_read (i := 16) rfl rfl ⟨_, hS⟩ rfl
    · intro w' hT'
      simp only [getElem_toArray, getElem_cons_zero, getElem_cons_succ]
      go_wp2_with fail
      first | exact ⟨rfl, rfl, rfl⟩ | rfl
    refine wpS_end ?_
    intro wz hT
    try dsimp only
    clear hS
    have hS : HS NoF w wz [.blk g1 27 D] := hT
    clear hT
    go_wp2_with fail
    refine bodyPost_ret (Go.Cour.results_tmp2 rfl _ _ rfl rfl) rfl ⟨by show Ending.returned (.tuple #[.int .i64 (32 * (N : Int) + (y : Int)), .int .i64 (min (q : Int) ((m : Int) - f) + 16)]) = _; rw [HP.out, show min (q : Int) ((m : Int) - f) = (t : Int) by omega], hS.bel⟩
set_option maxHeartbeats 1000000 in
set_option maxRecDepth 100000 in
theorem place16_out (D : List Value) (m q N : Nat) (i : Int) (w : World) (hl : D.length = 99) (h1 : D[1]? = some (.int .u32 (m : Int))) (h2 : D[2]? = some (.int .u32 (q : Int))) (hm : m ≤ 1000) (hq : q ≤ 1000) (hN : countI m q = (N : Int)) (hN2 : N ≤ 1000) (hi : i < 0 ∨ (N : Int) ≤ i) :
    Calls Tryz.prog 13 #[.agg D.toArray, .int .i64 i] w fun e w' => e = .returned (.tuple #[.int .i64 0, .int .i64 0]) ∧ Below w.heap.size w w' := by
  have HL := hid hl
  have H1 := hid h1
  have H2 := hid h2
  have HN := hid hN
  have hS := HS.start NoF w
  clear hl h1 h2 hN
  by_cases h0 : i < 0
  · clear hi
    go_enter Tryz.func13, Tryz.ntmps13
    go_wp2_with (first
        | (refine box_blk rfl 27 _ rfl _ rfl D rfl ?_; intro g1 w1 hga hba hBa hsa; replace hS : HS NoF w w1 [.blk g1 27 D] := hS.pushBlk hBa hba hga; clear hga hba hBa hsa)
        | (refine hs_loadW hS 0 rfl rfl 27 _ rfl rfl 99 sizeDesc HL.out _ undDesc.choose_spec rfl _ rfl ?_)
        | (go_at_call 39; refine (chunks16_calls D m q N _ H1.out H2.out (by omega) (by omega) HN.out).mono ?_; rintro e w6 ⟨rfl, hB6⟩; replace hS := hS.below hB6; clear hB6)
        | fail)
    refine bodyPost_ret (Go.Cour.results_tmp2 rfl _ _ rfl rfl) rfl ⟨rfl, hS.bel⟩
  · have hi2 : (N : Int) ≤ i := by omega
    clear hi
    go_enter Tryz.func13, Tryz.ntmps13
    go_wp2_with (first
        | (refine box_blk rfl 27 _ rfl _ rfl D rfl ?_; intro g1 w1 hga hba hBa hsa; replace hS : HS NoF w w1 [.blk g1 27 D] := hS.pushBlk hBa hba hga; clear hga hba hBa hsa)
        | (refine hs_loadW hS 0 rfl rfl 27 _ rfl rfl 99 sizeDesc HL.out _ undDesc.choose_spec rfl _ rfl ?_)
        | (go_at_call 39; refine (chunks16_calls D m q N _ H1.out H2.out (by omega) (by omega) HN.out).mono ?_; rintro e w6 ⟨rfl, hB6⟩; replace hS := hS.below hB6; clear hB6)
        | fail)
    refine bodyPost_ret (Go.Cour.results_tmp2 rfl _ _ rfl rfl) rfl ⟨rfl, hS.bel⟩
set_option maxHeartbeats 1000000 in
set_option maxRecDepth 100000 in
theorem dplace_out (D : List Value) (m q N : Nat) (i : Int) (w : World) (hl : D.length = 99) (h1 : D[1]? = some (.int .u32 (m : Int))) (h2 : D[2]? = some (.int .u32 (q : Int))) (hm : m ≤ 1000) (hq : q ≤ 1000) (hN : countI m q = (N : Int)) (hN2 : N ≤ 1000) (hi : i < 0 ∨ (N : Int) ≤ i) :
    Calls Tryz.prog 12 #[.agg D.toArray, .int .i64 i] w fun e w' => e = .returned (.tuple #[.int .i64 0, .int .i64 0]) ∧ Below w.heap.size w w' := by
  have HL := hid hl
  have H1 := hid h1
  have H2 := hid h2
  have HN := hid hN
  have hS := HS.start NoF w
  clear hl h1 h2 hN
  by_cases h0 : i < 0
  · clear hi
    go_enter Tryz.func12, Tryz.ntmps12
    go_wp2_with (first
        | (refine box_blk rfl 27 _ rfl _ rfl D rfl ?_; intro g1 w1 hga hba hBa hsa; replace hS : HS NoF w w1 [.blk g1 27 D] := hS.pushBlk hBa hba hga; clear hga hba hBa hsa)
        | (refine hs_loadW hS 0 rfl rfl 27 _ rfl rfl 99 sizeDesc HL.out _ undDesc.choose_spec rfl _ rfl ?_)
        | (go_at_call 38; refine (dcount_calls D m q N _ HL.out H1.out H2.out (by omega) (by omega) HN.out).mono ?_; rintro e w6 ⟨rfl, hB6⟩; replace hS := hS.below hB6; clear hB6)
        | fail)
    refine bodyPost_ret (Go.Cour.results_tmp2 rfl _ _ rfl rfl) rfl ⟨rfl, hS.bel⟩
  · have hi2 : (N : Int) ≤ i := by omega
    clear hi
    go_enter Tryz.func12, Tryz.ntmps12
    go_wp2_with (first
        | (refine box_blk rfl 27 _ rfl _ rfl D rfl ?_; intro g1 w1 hga hba hBa hsa; replace hS : HS NoF w w1 [.blk g1 27 D] := hS.pushBlk hBa hba hga; clear hga hba hBa hsa)
        | (refine hs_loadW hS 0 rfl rfl 27 _ rfl rfl 99 sizeDesc HL.out _ undDesc.choose_spec rfl _ rfl ?_)
        | (go_at_call 38; refine (dcount_calls D m q N _ HL.out H1.out H2.out (by omega) (by omega) HN.out).mono ?_; rintro e w6 ⟨rfl, hB6⟩; replace hS := hS.below hB6; clear hB6)
        | fail)
    refine bodyPost_ret (Go.Cour.results_tmp2 rfl _ _ rfl rfl) rfl ⟨rfl, hS.bel⟩
set_option maxHeartbeats 1000000 in
set_option maxRecDepth 100000 in
theorem make16_out (key : List Int) (id q : Int) (A : Option Addr) (m c : Nat) (w : World) (hbad : 600 < m ∨ q < 1 ∨ 64 < q) :
    Calls Tryz.prog 16 #[.int .u32 id, .slice A m c, .int .i64 q, .agg (ints .u8 key).toArray] w fun e w' => e = .returned (.tuple #[.agg zeroD.toArray, .slice none 0 0]) ∧ Below w.heap.size w w' := by
  have hS := HS.start NoF w
  have HZ1 := hid zeroD_length
  have HZD := hid zeroDesc
  have HZO := hid (descC_one 0 0 0 (List.replicate 32 0) (List.replicate 32 0) (List.replicate 32 0))
  have HB0 := hid builtD0
  change Hd (∀ v ∈ zeroD, v.oneCell' = true) at HZO
  generalize zeroD = Z at *
  by_cases a : 600 < m
  · have f1 : (600 : Int) < m := by omega
    clear hbad a
    go_enter Tryz.func16, Tryz.ntmps16
    go_wp2_with (first
        | (refine box_blk rfl 24 _ rfl _ rfl (ints .u8 key) rfl ?_; intro g7 w7 hga hba hBa hsa; replace hS := hS.pushBlk hBa hba hga; clear hga hba hBa hsa)
        | (refine alloc_blk rfl 27 rfl _ rfl Z HZD.out ?_; intro g8 w8 hga hba hBa hsa; replace hS := hS.pushBlk hBa hba hga; clear hga hba hBa hsa)
        | (refine build_to rfl 27 _ rfl Z.toArray (by rw [Array.toList_map]; exact HB0.out) ?_)
        | (refine hs_storeW hS 0 rfl rfl 27 _ _ rfl rfl Z rfl HZO.out 99 sizeDesc HZ1.out HZ1.out _ rfl ?_; clear hS; intro w9 hS)
        | fail)
    refine bodyPost_ret (results_str2 rfl _ _ g8 _ _ (.slice none 0 0) _ rfl rfl (hS.blk 0 rfl) Tryz.underlying27 (by rw [HZ1.out]; exact sizeDesc)) rfl ⟨rfl, hS.bel⟩
  · have f1 : ¬ (600 : Int) < m := by omega
    by_cases b : q < 1
    · clear hbad a
      go_enter Tryz.func16, Tryz.ntmps16
      go_wp2_with (first
          | (refine box_blk rfl 24 _ rfl _ rfl (ints .u8 key) rfl ?_; intro g7 w7 hga hba hBa hsa; replace hS := hS.pushBlk hBa hba hga; clear hga hba hBa hsa)
          | (refine alloc_blk rfl 27 rfl _ rfl Z HZD.out ?_; intro g8 w8 hga hba hBa hsa; replace hS := hS.pushBlk hBa hba hga; clear hga hba hBa hsa)
          | (refine build_to rfl 27 _ rfl Z.toArray (by rw [Array.toList_map]; exact HB0.out) ?_)
          | (refine hs_storeW hS 0 rfl rfl 27 _ _ rfl rfl Z rfl HZO.out 99 sizeDesc HZ1.out HZ1.out _ rfl ?_; clear hS; intro w9 hS)
          | fail)
      refine bodyPost_ret (results_str2 rfl _ _ g8 _ _ (.slice none 0 0) _ rfl rfl (hS.blk 0 rfl) Tryz.underlying27 (by rw [HZ1.out]; exact sizeDesc)) rfl ⟨rfl, hS.bel⟩
    · have f3 : (64 : Int) < q := by omega
      clear hbad a
      go_enter Tryz.func16, Tryz.ntmps16
      go_wp2_with (first
          | (refine box_blk rfl 24 _ rfl _ rfl (ints .u8 key) rfl ?_; intro g7 w7 hga hba hBa hsa; replace hS := hS.pushBlk hBa hba hga; clear hga hba hBa hsa)
          | (refine alloc_blk rfl 27 rfl _ rfl Z HZD.out ?_; intro g8 w8 hga hba hBa hsa; replace hS := hS.pushBlk hBa hba hga; clear hga hba hBa hsa)
          | (refine build_to rfl 27 _ rfl Z.toArray (by rw [Array.toList_map]; exact HB0.out) ?_)
          | (refine hs_storeW hS 0 rfl rfl 27 _ _ rfl rfl Z rfl HZO.out 99 sizeDesc HZ1.out HZ1.out _ rfl ?_; clear hS; intro w9 hS)
          | fail)
      refine bodyPost_ret (results_str2 rfl _ _ g8 _ _ (.slice none 0 0) _ rfl rfl (hS.blk 0 rfl) Tryz.underlying27 (by rw [HZ1.out]; exact sizeDesc)) rfl ⟨rfl, hS.bel⟩
set_option maxHeartbeats 1000000 in
set_option maxRecDepth 100000 in
theorem makeP_out (key : List Int) (id q : Int) (A : Option Addr) (m c : Nat) (w : World) (hbad : 600 < m ∨ q < 1 ∨ 64 < q) :
    Calls Tryz.prog 15 #[.int .u32 id, .slice A m c, .int .i64 q, .agg (ints .u8 key).toArray] w fun e w' => e = .returned (.tuple #[.agg zeroD.toArray, .slice none 0 0]) ∧ Below w.heap.size w w' := by
  have hS := HS.start NoF w
  have HZ1 := hid zeroD_length
  have HZD := hid zeroDesc
  have HZO := hid (descC_one 0 0 0 (List.replicate 32 0) (List.replicate 32 0) (List.replicate 32 0))
  have HB0 := hid builtD0
  change Hd (∀ v ∈ zeroD, v.oneCell' = true) at HZO
  generalize zeroD = Z at *
  by_cases a : 600 < m
  · have f1 : (600 : Int) < m := by omega
    clear hbad a
    go_enter Tryz.func15, Tryz.ntmps15
    go_wp2_with (first
        | (refine box_blk rfl 24 _ rfl _ rfl (ints .u8 key) rfl ?_; intro g7 w7 hga hba hBa hsa; replace hS := hS.pushBlk hBa hba hga; clear hga hba hBa hsa)
        | (refine alloc_blk rfl 27 rfl _ rfl Z HZD.out ?_; intro g8 w8 hga hba hBa hsa; replace hS := hS.pushBlk hBa hba hga; clear hga hba hBa hsa)
        | (refine build_to rfl 27 _ rfl Z.toArray (by rw [Array.toList_map]; exact HB0.out) ?_)
        | (refine hs_storeW hS 0 rfl rfl 27 _ _ rfl rfl Z rfl HZO.out 99 sizeDesc HZ1.out HZ1.out _ rfl ?_; clear hS; intro w9 hS)
        | fail)
    refine bodyPost_ret (results_str2 rfl _ _ g8 _ _ (.slice none 0 0) _ rfl rfl (hS.blk 0 rfl) Tryz.underlying27 (by rw [HZ1.out]; exact sizeDesc)) rfl ⟨rfl, hS.bel⟩
  · have f1 : ¬ (600 : Int) < m := by omega
    by_cases b : q < 1
    · clear hbad a
      go_enter Tryz.func15, Tryz.ntmps15
      go_wp2_with (first
          | (refine box_blk rfl 24 _ rfl _ rfl (ints .u8 key) rfl ?_; intro g7 w7 hga hba hBa hsa; replace hS := hS.pushBlk hBa hba hga; clear hga hba hBa hsa)
          | (refine alloc_blk rfl 27 rfl _ rfl Z HZD.out ?_; intro g8 w8 hga hba hBa hsa; replace hS := hS.pushBlk hBa hba hga; clear hga hba hBa hsa)
          | (refine build_to rfl 27 _ rfl Z.toArray (by rw [Array.toList_map]; exact HB0.out) ?_)
          | (refine hs_storeW hS 0 rfl rfl 27 _ _ rfl rfl Z rfl HZO.out 99 sizeDesc HZ1.out HZ1.out _ rfl ?_; clear hS; intro w9 hS)
          | fail)
      refine bodyPost_ret (results_str2 rfl _ _ g8 _ _ (.slice none 0 0) _ rfl rfl (hS.blk 0 rfl) Tryz.underlying27 (by rw [HZ1.out]; exact sizeDesc)) rfl ⟨rfl, hS.bel⟩
    · have f3 : (64 : Int) < q := by omega
      clear hbad a
      go_enter Tryz.func15, Tryz.ntmps15
      go_wp2_with (first
          | (refine box_blk rfl 24 _ rfl _ rfl (ints .u8 key) rfl ?_; intro g7 w7 hga hba hBa hsa; replace hS := hS.pushBlk hBa hba hga; clear hga hba hBa hsa)
          | (refine alloc_blk rfl 27 rfl _ rfl Z HZD.out ?_; intro g8 w8 hga hba hBa hsa; replace hS := hS.pushBlk hBa hba hga; clear hga hba hBa hsa)
          | (refine build_to rfl 27 _ rfl Z.toArray (by rw [Array.toList_map]; exact HB0.out) ?_)
          | (refine hs_storeW hS 0 rfl rfl 27 _ _ rfl rfl Z rfl HZO.out 99 sizeDesc HZ1.out HZ1.out _ rfl ?_; clear hS; intro w9 hS)
          | fail)
      refine bodyPost_ret (results_str2 rfl _ _ g8 _ _ (.slice none 0 0) _ rfl rfl (hS.blk 0 rfl) Tryz.underlying27 (by rw [HZ1.out]; exact sizeDesc)) rfl ⟨rfl, hS.bel⟩
end Go.Proofs.YtlikinglgegclaaGreatDoor
