import Derived.Recover
import Derived.Test.YtlikinglgegclaaGreatDoorMgDS0
import Derived.Test.YtlikinglgegclaaGreatDoorMgDS1
import Derived.Test.YtlikinglgegclaaGreatDoorMgDS2
import Derived.Test.YtlikinglgegclaaGreatDoorMgDS3
import Derived.Test.YtlikinglgegclaaGreatDoorMgDS4
import Derived.Test.YtlikinglgegclaaGreatDoorMgDS5
import Derived.Test.YtlikinglgegclaaGreatDoorMgDS6
import Derived.Test.YtlikinglgegclaaGreatDoorMgDS7
import Derived.Test.YtlikinglgegclaaGreatDoorMgDS8
import Derived.Test.YtlikinglgegclaaGreatDoorMgDS9
import Derived.Test.YtlikinglgegclaaGreatDoorMgDS10
import Derived.Test.YtlikinglgegclaaGreatDoorMgDS11
import Derived.Test.YtlikinglgegclaaGreatDoorMgDS12
import Derived.Test.YtlikinglgegclaaGreatDoorMgDS13
import Derived.Test.YtlikinglgegclaaGreatDoorMgDS14
set_option linter.unusedSimpArgs false
set_option linter.unusedVariables false
open List (getElem_toArray getElem_cons_zero getElem_cons_succ)
/- trap: Fail. -/
namespace Go.Proofs.YtlikinglgegclaaGreatDoor
open Go.RowKit Go.Cour
/-- What is thrown: an error around a place. -/
def thrownV (g : Nat) : Value := .iface 112 (.agg #[.iface 92 (.pointer (some ⟨g, 0, none⟩))])
theorem builtAt (p : Int) (a : Addr) : Tryz.prog.built 94 [(0, .int .i64 p), (1, errV a)] = some #[.int .i64 p, errV a] := by kernel_rfl
set_option maxHeartbeats 400000 in
set_option maxRecDepth 100000 in
theorem fail_calls (p : Int) (a : Addr) (w : World) : Calls Tryz.prog 56 #[.int .i64 p, errV a] w fun e w' => ∃ g, e = .panicked [{ v := thrownV g, recovered := false }] ∧ HS NoF w w' [.blk g 94 [.int .i64 p, errV a]] := by
  have hS := HS.start NoF w
  have hen := fun w => err_nil_right a w
  have heg := fun op t x y v => eqGuard_err op t x y a v
  have HB := hid (builtAt p a)
  go_enter Tryz.func56, Tryz.ntmps56
  go_wp2_with (first
    | (refine build_to rfl 94 _ rfl #[.int .i64 p, errV a] (by rw [Array.toList_map]; exact HB.out) ?_)
    | (refine box_blk rfl 94 _ rfl _ rfl [.int .i64 p, errV a] rfl ?_; intro g1 w1 hga hba hBa hsa; replace hS : HS NoF w w1 [.blk g1 94 [.int .i64 p, errV a]] := hS.pushBlk hBa hba hga; clear hga hba hBa hsa)
    | fail)
  exact ⟨rfl, g1, rfl, hS⟩
end Go.Proofs.YtlikinglgegclaaGreatDoor
/- code.Reader: takes. -/
namespace Go.Proofs.YtlikinglgegclaaGreatDoor
open Go.RowKit Go.Cour
/-- s[p:h], p the capacity itself perhaps. -/
theorem slice_anyC {P : Program} {w : World} {ops : Array Oper} {rest : List Oper} {o : Oper} {a : Act} {Q : Exit → Act → World → Prop} (hw : Region.wanted o (yielded ops a.tmps) = true) (x y z : Operand) (t : TypeId) (ho : o.op = .slice t x (some y) (some z) none) (e : TypeId)
    (hu : P.underlying t = some (.slice e)) (hsz : (P.info? e).map (·.size) = some 1) (A : Option Addr) (m c p h n : Nat) (hx : a.eval x = .slice A m c) (hy : a.eval y = .int .i64 (p : Int)) (hz : a.eval z = .int .i64 (h : Int)) (hph : p ≤ h) (hhc : h ≤ c) (hn : h - p = n) (d : Option Tmp) (hd : o.dst = d)
    (hk : wpList P ops Q rest (a.put d (.slice (cutA A c p) n (c - p))) w) : wpList P ops Q (o :: rest) a w := by
  subst hd hn
  obtain ⟨i, hi, hs⟩ : ∃ i, P.info? e = some i ∧ i.size = 1 := by
    cases hie : P.info? e with
    | none => simp [hie] at hsz
    | some i => exact ⟨i, rfl, by simpa [hie] using hsz⟩
  refine wpList_step fun K hK => ?_
  rw [if_pos hw]
  have hs2 : (sizeOf e).run P w = .ok 1 w := by simp [sizeOf, typeInfo, hi, hs]
  have hrun : (Instr.slice t (.slice A m c) (some (.int .i64 (p : Int))) (some (.int .i64 (h : Int))) none).run P w = .ok (.slice (cutA A c p) (h - p) (c - p)) w := by
    simp [Instr.slice, run_underlying hu, Instr.sliceBounds, run_sliceBound, hs2, hph, hhc, cutA]
  have hrun2 : (Instr.sliceAt t (.slice A m c) (some (.int .i64 (p : Int))) (some (.int .i64 (h : Int))) none).run P w = .ok (.slice (cutA A c p) (h - p) (c - p)) w := by
    rw [← hrun]; simp [Instr.sliceAt, run_underlying hu]
  unfold Oper.wp execOp
  simp only [ho, hx, hy, hz, Option.map_some, Option.map_none]
  simp [hrun2]
  exact hK _ _ hk
theorem sizeIntC : (Tryz.prog.info? 3).map (·.size) = some 1 := by kernel_rfl
theorem sizeU8C : (Tryz.prog.info? 5).map (·.size) = some 1 := by kernel_rfl
/-- A reader's cells. -/
def rdrC (b : Value) (a : Int) : List Value := [b, .int .i64 a]
/-- Only the reader changes. -/
def RF (g : Nat) (k : Nat) : Prop := k = g
set_option maxHeartbeats 1000000 in
set_option maxRecDepth 100000 in
theorem takes_calls (gr m c a n : Nat) (fr : Int) (A : Option Addr) (w : World) (hb : Blk w gr 90 (rdrC (.slice A m c) a)) (hn : a + n ≤ m) (hc : m ≤ c) (hm : m ≤ 1000000) :
    Calls Tryz.prog 55 #[.pointer (some ⟨gr, 0, none⟩), .int .i64 fr, .int .i64 (n : Int)] w fun e w' => e = .returned (.slice (cutA A c a) n (c - a)) ∧ HS (RF gr) w w' [.blk gr 90 (rdrC (.slice A m c) (a + n : Nat))] := by
  have hS := (HS.start (RF gr) w).take (.blk gr 90 (rdrC (.slice A m c) a)) hb (fun k hk => .inl hk) (fun f hf => by cases hf)
  clear hb
  obtain ⟨F, hF⟩ : ∃ F, Hd (RF gr = F) := ⟨_, hid rfl⟩
  rw [hF.out] at hS ⊢
  have hlt : ¬ ((m : Int) - (a : Int) < (n : Int)) := by omega
  obtain ⟨h, hh⟩ : ∃ h : Nat, (a : Int) + (n : Int) = (h : Int) := ⟨a + n, by omega⟩
  have hh2 : (h : Int) - (n : Int) = (a : Int) := by omega
  have HH : Hd (a + n = h) := hid (by omega)
  rw [HH.out]
  go_enter Tryz.func55, Tryz.ntmps55
  try go_wp2_with fail
  refine wp_region_S (F := F) (w0 := w) (L0 := [.blk gr 90 (rdrC (.slice A m c) a)]) [] []
    (fun iK u E => match iK with
      | _ => False)
    ([]) (by kernel_rfl) (by kernel_rfl) hS ?_
  show wpS _ _ _ _ _ _ _ _ _ _ [0, 1, 2, 3, 4, 5, 6, 7, 8, 9, 10, 11] _
  apply wpS_read (i := 0) rfl rfl ⟨_, hS⟩ rfl
  · intro w' hT'
    simp only [getElem_toArray, getElem_cons_zero, getElem_cons_succ]
    go_wp2_with fail
    first | exact ⟨rfl, rfl, rfl⟩ | rfl
  apply wpS_read (i := 1) rfl rfl ⟨_, hS⟩ rfl
  · intro w' hT'
    simp only [getElem_toArray, getElem_cons_zero, getElem_cons_succ]
    go_wp2_with fail
    first | exact ⟨rfl, rfl, rfl⟩ | rfl
  apply wpS_read (i := 2) rfl rfl ⟨_, hS⟩ rfl
  · intro w' hT'
    simp only [getElem_toArray, getElem_cons_zero, getElem_cons_succ]
    go_wp2_with fail
    first | exact ⟨rfl, rfl, rfl⟩ | rfl
  apply wpS_read (i := 3) rfl rfl ⟨_, hS⟩ rfl
  · intro w' hT'
    simp only [getElem_toArray, getElem_cons_zero, getElem_cons_succ]
    go_wp2_with fail
    first | exact ⟨rfl, rfl, rfl⟩ | rfl
  apply wpS_read (i := 4) rfl rfl ⟨_, hS⟩ rfl
  · intro w' hT'
    simp only [getElem_toArray, getElem_cons_zero, getElem_cons_succ]
    have c0 : w'.cell? ⟨gr, 0, none⟩ = some (.slice A m c) := hT'.cell 0 rfl 0
    have c1 : w'.cell? ⟨gr, 1, none⟩ = some (.int .i64 (a : Int)) := hT'.cell 0 rfl 1
    go_wp2_with fail
    first | exact ⟨rfl, rfl, rfl⟩ | rfl
  apply wpS_read (i := 5) rfl rfl ⟨_, hS⟩ rfl
  · intro w' hT'
    simp only [getElem_toArray, getElem_cons_zero, getElem_cons_succ]
    go_wp2_with fail
    first | exact ⟨rfl, rfl, rfl⟩ | rfl
  apply wpS_read (i := 6) rfl rfl ⟨_, hS⟩ rfl
  · intro w' hT'
    simp only [getElem_toArray, getElem_cons_zero, getElem_cons_succ]
    go_wp2_with fail
    first | exact ⟨rfl, rfl, rfl⟩ | rfl
  apply wpS_read (i := 7) rfl rfl ⟨_, hS⟩ rfl
  · intro w' hT'
    simp only [getElem_toArray, getElem_cons_zero, getElem_cons_succ]
    go_wp2_with fail
    first | exact ⟨rfl, rfl, rfl⟩ | rfl
  apply wpS_read (i := 8) rfl rfl ⟨_, hS⟩ rfl
  · intro w' hT'
    simp only [getElem_toArray, getElem_cons_zero, getElem_cons_succ]
    go_wp2_with fail
    first | exact ⟨rfl, rfl, rfl⟩ | rfl
  apply wpS_read (i := 9) rfl rfl ⟨_, hS⟩ rfl
  · intro w' hT'
    simp only [getElem_toArray, getElem_cons_zero, getElem_cons_succ]
    have c0 : w'.cell? ⟨gr, 0, none⟩ = some (.slice A m c) := hT'.cell 0 rfl 0
    have c1 : w'.cell? ⟨gr, 1, none⟩ = some (.int .i64 (a : Int)) := hT'.cell 0 rfl 1
    go_wp2_with fail
    first | exact ⟨rfl, rfl, rfl⟩ | rfl
  apply wpS_read (i := 10) rfl rfl ⟨_, hS⟩ rfl
  · intro w' hT'
    simp only [getElem_toArray, getElem_cons_zero, getElem_cons_succ]
    go_wp2_with fail
    first | exact ⟨rfl, rfl, rfl⟩ | rfl
  apply wpS_read (i := 11) rfl rfl ⟨_, hS⟩ rfl
  · intro w' hT'
    simp only [getElem_toArray, getElem_cons_zero, getElem_cons_succ]
    go_wp2_with fail
    first | exact ⟨rfl, rfl, rfl⟩ | rfl
  refine wpS_end ?_
  intro wz hT
  try dsimp only
  clear hS
  have hS : HS F w wz [.blk gr 90 (rdrC (.slice A m c) a)] := hT
  clear hT
  have c1 : wz.cell? ⟨gr, 1, none⟩ = some (.int .i64 (a : Int)) := hS.cell 0 rfl 1
  go_wp2_with (first
      | (refine hs_store1 hS 0 rfl rfl 3 _ _ rfl 1 rfl (.int .i64 (h : Int)) rfl rfl sizeIntC (by simp [rdrC]) _ rfl ?_; clear hS; intro w5 hS; replace hS : HS F w w5 [.blk gr 90 (rdrC (.slice A m c) h)] := hS)
      | fail)
  clear c1
  try go_wp2_with fail
  refine wp_region_S (F := F) (w0 := w) (L0 := [.blk gr 90 (rdrC (.slice A m c) h)]) [] []
    (fun iK u E => match iK with
      | _ => False)
    ([]) (by kernel_rfl) (by kernel_rfl) hS ?_
  show wpS _ _ _ _ _ _ _ _ _ _ [0, 1, 2, 3, 4, 5, 6, 7, 8, 9, 10, 11, 12, 13, 14, 15] _
  apply wpS_read (i := 0) rfl rfl ⟨_, hS⟩ rfl
  · intro w' hT'
    simp only [getElem_toArray, getElem_cons_zero, getElem_cons_succ]
    go_wp2_with fail
    first | exact ⟨rfl, rfl, rfl⟩ | rfl
  apply wpS_read (i := 1) rfl rfl ⟨_, hS⟩ rfl
  · intro w' hT'
    simp only [getElem_toArray, getElem_cons_zero, getElem_cons_succ]
    go_wp2_with fail
    first | exact ⟨rfl, rfl, rfl⟩ | rfl
  apply wpS_read (i := 2) rfl rfl ⟨_, hS⟩ rfl
  · intro w' hT'
    simp only [getElem_toArray, getElem_cons_zero, getElem_cons_succ]
    go_wp2_with fail
    first | exact ⟨rfl, rfl, rfl⟩ | rfl
  apply wpS_read (i := 3) rfl rfl ⟨_, hS⟩ rfl
  · intro w' hT'
    simp only [getElem_toArray, getElem_cons_zero, getElem_cons_succ]
    have c0 : w'.cell? ⟨gr, 0, none⟩ = some (.slice A m c) := hT'.cell 0 rfl 0
    have c1 : w'.cell? ⟨gr, 1, none⟩ = some (.int .i64 (h : Int)) := hT'.cell 0 rfl 1
    go_wp2_with (first
      | (refine slice_anyC rfl _ _ _ 29 rfl 5 undBytes sizeU8C A m c a h n rfl rfl rfl (by omega) (by omega) (by omega) _ rfl ?_)
      | fail)
    first | exact ⟨rfl, rfl, rfl⟩ | rfl
  apply wpS_read (i := 4) rfl rfl ⟨_, hS⟩ rfl
  · intro w' hT'
    simp only [getElem_toArray, getElem_cons_zero, getElem_cons_succ]
    go_wp2_with fail
    first | exact ⟨rfl, rfl, rfl⟩ | rfl
  apply wpS_read (i := 5) rfl rfl ⟨_, hS⟩ rfl
  · intro w' hT'
    simp only [getElem_toArray, getElem_cons_zero, getElem_cons_succ]
    go_wp2_with fail
    first | exact ⟨rfl, rfl, rfl⟩ | rfl
  apply wpS_read (i := 6) rfl rfl ⟨_, hS⟩ rfl
  · intro w' hT'
    simp only [getElem_toArray, getElem_cons_zero, getElem_cons_succ]
    go_wp2_with fail
    first | exact ⟨rfl, rfl, rfl⟩ | rfl
  apply wpS_read (i := 7) rfl rfl ⟨_, hS⟩ rfl
  · intro w' hT'
    simp only [getElem_toArray, getElem_cons_zero, getElem_cons_succ]
    have c0 : w'.cell? ⟨gr, 0, none⟩ = some (.slice A m c) := hT'.cell 0 rfl 0
    have c1 : w'.cell? ⟨gr, 1, none⟩ = some (.int .i64 (h : Int)) := hT'.cell 0 rfl 1
    go_wp2_with (first
      | (refine slice_anyC rfl _ _ _ 29 rfl 5 undBytes sizeU8C A m c a h n rfl rfl rfl (by omega) (by omega) (by omega) _ rfl ?_)
      | fail)
    first | exact ⟨rfl, rfl, rfl⟩ | rfl
  apply wpS_read (i := 8) rfl rfl ⟨_, hS⟩ rfl
  · intro w' hT'
    simp only [getElem_toArray, getElem_cons_zero, getElem_cons_succ]
    go_wp2_with fail
    first | exact ⟨rfl, rfl, rfl⟩ | rfl
  apply wpS_read (i := 9) rfl rfl ⟨_, hS⟩ rfl
  · intro w' hT'
    simp only [getElem_toArray, getElem_cons_zero, getElem_cons_succ]
    go_wp2_with (first
      | (refine slice_anyC rfl _ _ _ 29 rfl 5 undBytes sizeU8C A m c a h n rfl rfl rfl (by omega) (by omega) (by omega) _ rfl ?_)
      | fail)
    first | exact ⟨rfl, rfl, rfl⟩ | rfl
  apply wpS_read (i := 10) rfl rfl ⟨_, hS⟩ rfl
  · intro w' hT'
    simp only [getElem_toArray, getElem_cons_zero, getElem_cons_succ]
    go_wp2_with fail
    first | exact ⟨rfl, rfl, rfl⟩ | rfl
  apply wpS_read (i := 11) rfl rfl ⟨_, hS⟩ rfl
  · intro w' hT'
    simp only [getElem_toArray, getElem_cons_zero, getElem_cons_succ]
    go_wp2_with fail
    first | exact ⟨rfl, rfl, rfl⟩ | rfl
  apply wpS_read (i := 12) rfl rfl ⟨_, hS⟩ rfl
  · intro w' hT'
    simp only [getElem_toArray, getElem_cons_zero, getElem_cons_succ]
    go_wp2_with fail
    first | exact ⟨rfl, rfl, rfl⟩ | rfl
  apply wpS_read (i := 13) rfl rfl ⟨_, hS⟩ rfl
  · intro w' hT'
    simp only [getElem_toArray, getElem_cons_zero, getElem_cons_succ]
    have c0 : w'.cell? ⟨gr, 0, none⟩ = some (.slice A m c) := hT'.cell 0 rfl 0
    have c1 : w'.cell? ⟨gr, 1, none⟩ = some (.int .i64 (h : Int)) := hT'.cell 0 rfl 1
    go_wp2_with (first
      | (refine slice_anyC rfl _ _ _ 29 rfl 5 undBytes sizeU8C A m c a h n rfl rfl rfl (by omega) (by omega) (by omega) _ rfl ?_)
      | fail)
    first | exact ⟨rfl, rfl, rfl⟩ | rfl
  apply wpS_read (i := 14) rfl rfl ⟨_, hS⟩ rfl
  · intro w' hT'
    simp only [getElem_toArray, getElem_cons_zero, getElem_cons_succ]
    go_wp2_with (first
      | (refine slice_anyC rfl _ _ _ 29 rfl 5 undBytes sizeU8C A m c a h n rfl rfl rfl (by omega) (by omega) (by omega) _ rfl ?_)
      | fail)
    first | exact ⟨rfl, rfl, rfl⟩ | rfl
  apply wpS_read (i := 15) rfl rfl ⟨_, hS⟩ rfl
  · intro w' hT'
    simp only [getElem_toArray, getElem_cons_zero, getElem_cons_succ]
    go_wp2_with fail
    first | exact ⟨rfl, rfl, rfl⟩ | rfl
  refine wpS_end ?_
  intro wz hT
  try dsimp only
  clear hS
  have hS : HS F w wz [.blk gr 90 (rdrC (.slice A m c) h)] := hT
  clear hT
  go_wp2_with fail
  refine bodyPost_ret (results_tmp rfl _ _ _) rfl ?_
  exact ⟨rfl, hS⟩
set_option maxHeartbeats 1000000 in
set_option maxRecDepth 100000 in
theorem takes_short (gr m c a n : Nat) (fr : Int) (A : Option Addr) {w : World} {P : Nat → Addr} (hE : Errs w P) (hb : Blk w gr 90 (rdrC (.slice A m c) a)) (hn : m < a + n) (ha : a ≤ m) (hm : m ≤ 1000000) (hn2 : n ≤ 1000000) :
    Calls Tryz.prog 55 #[.pointer (some ⟨gr, 0, none⟩), .int .i64 fr, .int .i64 (n : Int)] w fun e w' => ∃ g, e = .panicked [{ v := thrownV g, recovered := false }] ∧ HS NoF w w' [.blk g 94 [.int .i64 fr, errV (P 2)]] := by
  have hS := HS.start NoF w
  have HB := hid hb
  have HG : Hd (w.cell? ⟨3, 0, none⟩ = some (errV (P 2))) := hid (hE.cell 2 (by omega))
  clear hb hE
  have hlt : (m : Int) - (a : Int) < (n : Int) := by omega
  go_enter Tryz.func55, Tryz.ntmps55
  try go_wp2_with fail
  refine wp_region_S (F := NoF) (w0 := w) (L0 := []) [] []
    (fun iK u E => match iK with
      | _ => False)
    ([]) (by kernel_rfl) (by kernel_rfl) hS ?_
  show wpS _ _ _ _ _ _ _ _ _ _ [0, 1, 2, 3, 4, 5, 6, 7, 8, 9, 10, 11] _
  apply wpS_read (i := 0) rfl rfl ⟨_, hS⟩ rfl
  · intro w' hT'
    simp only [getElem_toArray, getElem_cons_zero, getElem_cons_succ]
    go_wp2_with fail
    first | exact ⟨rfl, rfl, rfl⟩ | rfl
  apply wpS_read (i := 1) rfl rfl ⟨_, hS⟩ rfl
  · intro w' hT'
    simp only [getElem_toArray, getElem_cons_zero, getElem_cons_succ]
    go_wp2_with fail
    first | exact ⟨rfl, rfl, rfl⟩ | rfl
  apply wpS_read (i := 2) rfl rfl ⟨_, hS⟩ rfl
  · intro w' hT'
    simp only [getElem_toArray, getElem_cons_zero, getElem_cons_succ]
    go_wp2_with fail
    first | exact ⟨rfl, rfl, rfl⟩ | rfl
  apply wpS_read (i := 3) rfl rfl ⟨_, hS⟩ rfl
  · intro w' hT'
    simp only [getElem_toArray, getElem_cons_zero, getElem_cons_succ]
    go_wp2_with fail
    first | exact ⟨rfl, rfl, rfl⟩ | rfl
  apply wpS_read (i := 4) rfl rfl ⟨_, hS⟩ rfl
  · intro w' hT'
    simp only [getElem_toArray, getElem_cons_zero, getElem_cons_succ]
    have c0 : w'.cell? ⟨gr, 0, none⟩ = some (.slice A m c) := (hT'.oldBlk HB.out (fun h => h)).cell 0
    have c1 : w'.cell? ⟨gr, 1, none⟩ = some (.int .i64 (a : Int)) := (hT'.oldBlk HB.out (fun h => h)).cell 1
    go_wp2_with fail
    first | exact ⟨rfl, rfl, rfl⟩ | rfl
  apply wpS_read (i := 5) rfl rfl ⟨_, hS⟩ rfl
  · intro w' hT'
    simp only [getElem_toArray, getElem_cons_zero, getElem_cons_succ]
    go_wp2_with fail
    first | exact ⟨rfl, rfl, rfl⟩ | rfl
  apply wpS_read (i := 6) rfl rfl ⟨_, hS⟩ rfl
  · intro w' hT'
    simp only [getElem_toArray, getElem_cons_zero, getElem_cons_succ]
    go_wp2_with fail
    first | exact ⟨rfl, rfl, rfl⟩ | rfl
  apply wpS_read (i := 7) rfl rfl ⟨_, hS⟩ rfl
  · intro w' hT'
    simp only [getElem_toArray, getElem_cons_zero, getElem_cons_succ]
    go_wp2_with fail
    first | exact ⟨rfl, rfl, rfl⟩ | rfl
  apply wpS_read (i := 8) rfl rfl ⟨_, hS⟩ rfl
  · intro w' hT'
    simp only [getElem_toArray, getElem_cons_zero, getElem_cons_succ]
    go_wp2_with fail
    first | exact ⟨rfl, rfl, rfl⟩ | rfl
  apply wpS_read (i := 9) rfl rfl ⟨_, hS⟩ rfl
  · intro w' hT'
    simp only [getElem_toArray, getElem_cons_zero, getElem_cons_succ]
    have c0 : w'.cell? ⟨gr, 0, none⟩ = some (.slice A m c) := (hT'.oldBlk HB.out (fun h => h)).cell 0
    have c1 : w'.cell? ⟨gr, 1, none⟩ = some (.int .i64 (a : Int)) := (hT'.oldBlk HB.out (fun h => h)).cell 1
    go_wp2_with fail
    first | exact ⟨rfl, rfl, rfl⟩ | rfl
  apply wpS_read (i := 10) rfl rfl ⟨_, hS⟩ rfl
  · intro w' hT'
    simp only [getElem_toArray, getElem_cons_zero, getElem_cons_succ]
    go_wp2_with fail
    first | exact ⟨rfl, rfl, rfl⟩ | rfl
  apply wpS_read (i := 11) rfl rfl ⟨_, hS⟩ rfl
  · intro w' hT'
    simp only [getElem_toArray, getElem_cons_zero, getElem_cons_succ]
    go_wp2_with fail
    first | exact ⟨rfl, rfl, rfl⟩ | rfl
  refine wpS_end ?_
  intro wz hT
  try dsimp only
  clear hS
  have hS : HS NoF w wz [] := hT
  clear hT
  have cg := hS.oldCell HG.out (fun h => h)
  go_wp2_with (first
    | (go_at_call 56; refine (fail_calls fr (P 2) _).mono ?_; rintro e w2 ⟨g, rfl, hq⟩; replace hS : HS NoF w w2 [.blk g 94 [.int .i64 fr, errV (P 2)]] := HS.call (A := []) hS hq (fun _ h => h.elim); clear hq)
    | fail)
  exact ⟨rfl, g, rfl, hS⟩
end Go.Proofs.YtlikinglgegclaaGreatDoor
/- code.Reader: Raw. -/
namespace Go.Proofs.YtlikinglgegclaaGreatDoor
open Go.RowKit Go.Cour
theorem cutA_none {A : Option Addr} {c a : Nat} (hA : A = none → c = 0) (h : cutA A c a = none) : c - a = 0 := by
  unfold cutA at h
  split at h
  · omega
  · cases A with
    | none => have := hA rfl; omega
    | some b => simp at h
theorem rd_cut {w : World} {A : Option Addr} {bs : List Int} {c a : Nat} (n : Nat) (h : Rd w A .u8 bs) (ha : a ≤ bs.length) (hc : bs.length ≤ c) : Rd w (cutA A c a) .u8 ((bs.drop a).take n) := (h.drop a c ha hc).take n
set_option maxHeartbeats 1000000 in
set_option maxRecDepth 100000 in
theorem raw_calls (gr m c a n : Nat) (bs : List Int) (A : Option Addr) (w : World) (hb : Blk w gr 90 (rdrC (.slice A m c) a)) (hbl : bs.length = m) (hr : Rd w A .u8 bs) (hA : A = none → c = 0) (hsep : ∀ ad, A = some ad → bs ≠ [] → ad.block ≠ gr) (hn : a + n ≤ m) (hc : m ≤ c) (hm : m ≤ 1000000) :
    Calls Tryz.prog 30 #[.pointer (some ⟨gr, 0, none⟩), .int .i64 (n : Int)] w fun e w' => ∃ v, e = .returned v ∧ HS (RF gr) w w' [.os 5 v (ints .u8 ((bs.drop a).take n)), .blk gr 90 (rdrC (.slice A m c) (a + n : Nat))] := by
  have HB := hid hb
  have HR := hid hr
  have HBL := hid hbl
  have HA := hid hA
  have HS' := hid hsep
  have HXL : Hd (n = ((bs.drop a).take n).length) := hid (by rw [List.length_take, List.length_drop]; omega)
  have hn0 : ¬ (n : Int) < 0 := by omega
  have c1 : w.cell? ⟨gr, 1, none⟩ = some (.int .i64 (a : Int)) := hb.cell 1
  clear hb hr hbl hA hsep
  go_enter Tryz.func30, Tryz.ntmps30
  go_wp2_with fail
  refine (takes_calls gr m c a n (a : Int) A _ HB.out hn hc hm).mono ?_
  rintro e w2 ⟨rfl, hS⟩
  clear c1
  go_wp2_with fail
  refine (clone_calls (cutA A c a) n (c - a) ((bs.drop a).take n) _ HXL.out (cutA_none HA.out) (rd_cut n (hS.oldRd HR.out (fun ad h1 h2 => HS'.out ad h1 h2)) (by rw [HBL.out]; omega) (by rw [HBL.out]; exact hc)) (by rw [← HXL.out]; omega)).mono ?_
  rintro e w3 ⟨v, rfl, ho, hB⟩
  replace hS := hS.pushOwn hB ho
  clear hB ho
  go_wp2_with fail
  go_ret
  exact ⟨_, rfl, hS⟩
set_option maxHeartbeats 1000000 in
set_option maxRecDepth 100000 in
theorem raw_short (gr m c a n : Nat) (A : Option Addr) {w : World} {P : Nat → Addr} (hE : Errs w P) (hb : Blk w gr 90 (rdrC (.slice A m c) a)) (hn : m < a + n) (ha : a ≤ m) (hm : m ≤ 1000000) (hn2 : n ≤ 1000000) :
    Calls Tryz.prog 30 #[.pointer (some ⟨gr, 0, none⟩), .int .i64 (n : Int)] w fun e w' => ∃ g, e = .panicked [{ v := thrownV g, recovered := false }] ∧ HS NoF w w' [.blk g 94 [.int .i64 (a : Int), errV (P 2)]] := by
  have HB := hid hb
  have HE := hid hE
  have hn0 : ¬ (n : Int) < 0 := by omega
  have c1 : w.cell? ⟨gr, 1, none⟩ = some (.int .i64 (a : Int)) := hb.cell 1
  clear hb hE
  go_enter Tryz.func30, Tryz.ntmps30
  go_wp2_with fail
  refine (takes_short gr m c a n (a : Int) A HE.out HB.out hn ha hm hn2).mono ?_
  rintro e w2 ⟨g, rfl, hS⟩
  clear c1
  go_wp2_with fail
  exact ⟨rfl, g, rfl, hS⟩
theorem cutA_some {g o c a : Nat} (h : c ≠ a) : cutA (some ⟨g, o, none⟩) c a = some ⟨g, o + a, none⟩ := by
  unfold cutA
  rw [if_neg h, Option.map_some, add_lit]
set_option maxHeartbeats 1000000 in
set_option maxRecDepth 100000 in
theorem ru32_calls (gr m c a g o : Nat) (b0 b1 b2 b3 : Int) (w : World) (hb : Blk w gr 90 (rdrC (.slice (some ⟨g, o, none⟩) m c) a)) (hg : g ≠ gr) (hn : a + 4 ≤ m) (hc : m ≤ c) (hm : m ≤ 1000000)
    (h0 : w.cell? ⟨g, o + a, none⟩ = some (.int .u8 b0)) (h1 : w.cell? ⟨g, o + a + 1, none⟩ = some (.int .u8 b1)) (h2 : w.cell? ⟨g, o + a + 2, none⟩ = some (.int .u8 b2)) (h3 : w.cell? ⟨g, o + a + 3, none⟩ = some (.int .u8 b3))
    (r0 : 0 ≤ b0 ∧ b0 < 256) (r1 : 0 ≤ b1 ∧ b1 < 256) (r2 : 0 ≤ b2 ∧ b2 < 256) (r3 : 0 ≤ b3 ∧ b3 < 256) :
    Calls Tryz.prog 29 #[.pointer (some ⟨gr, 0, none⟩)] w fun e w' => e = .returned (.int .u32 (word4 b0 b1 b2 b3)) ∧ HS (RF gr) w w' [.blk gr 90 (rdrC (.slice (some ⟨g, o, none⟩) m c) (a + 4 : Nat))] := by
  have HB := hid hb
  have H0 := hid h0
  have H1 := hid h1
  have H2 := hid h2
  have H3 := hid h3
  have c1 : w.cell? ⟨gr, 1, none⟩ = some (.int .i64 (a : Int)) := hb.cell 1
  have HTK := takes_calls gr m c a 4 (a : Int) (some ⟨g, o, none⟩) w hb hn hc hm
  rw [cutA_some (by omega)] at HTK
  clear hb h0 h1 h2 h3
  go_enter Tryz.func29, Tryz.ntmps29
  go_wp2_with fail
  refine HTK.mono ?_
  rintro e w2 ⟨rfl, hS⟩
  clear c1
  have h0 := hS.oldCell H0.out (fun h => hg h)
  have h1 := hS.oldCell H1.out (fun h => hg h)
  have h2 := hS.oldCell H2.out (fun h => hg h)
  have h3 := hS.oldCell H3.out (fun h => hg h)
  go_wp2
  go_quiet (fail)
  go_wp2
  go_ret
  exact ⟨rfl, by first | exact hS.drewN _ | exact hS⟩
set_option maxHeartbeats 1000000 in
set_option maxRecDepth 100000 in
theorem ru32_short (gr m c a : Nat) (A : Option Addr) {w : World} {P : Nat → Addr} (hE : Errs w P) (hb : Blk w gr 90 (rdrC (.slice A m c) a)) (hn : m < a + 4) (ha : a ≤ m) (hm : m ≤ 1000000) :
    Calls Tryz.prog 29 #[.pointer (some ⟨gr, 0, none⟩)] w fun e w' => ∃ g, e = .panicked [{ v := thrownV g, recovered := false }] ∧ HS NoF w w' [.blk g 94 [.int .i64 (a : Int), errV (P 2)]] := by
  have HB := hid hb
  have HE := hid hE
  have c1 : w.cell? ⟨gr, 1, none⟩ = some (.int .i64 (a : Int)) := hb.cell 1
  clear hb hE
  go_enter Tryz.func29, Tryz.ntmps29
  go_wp2_with fail
  refine (takes_short gr m c a 4 (a : Int) A HE.out HB.out hn ha hm (by omega)).mono ?_
  rintro e w2 ⟨g, rfl, hS⟩
  clear c1
  go_wp2_with fail
  exact ⟨rfl, g, rfl, hS⟩
end Go.Proofs.YtlikinglgegclaaGreatDoor
/- The reference's reader: Fine, Fail, Raw. -/
namespace Go.Cour
open Go.RowKit
/-- A struct loaded out of the midst of a block. -/
theorem load_cells {P : Program} {ops : Array Oper} {rest : List Oper} {o : Oper} {a : Act} {w : World} {Q : Exit → Act → World → Prop} (hw : Region.wanted o (yielded ops a.tmps) = true) (ty : TypeId) (x : Operand) (ho : o.op = .load ty x)
    (g j : Nat) (hx : a.eval x = .pointer (some ⟨g, j, none⟩)) (vs : List Value) (hc : ∀ m v, vs[m]? = some v → w.cell? ⟨g, j + m, none⟩ = some v) (n : Nat) (hs : (P.info? ty).map (·.size) = some n) (hn : vs.length = n) (b : TypeDesc) (hu : P.underlying ty = some b) (hb : b.isRow = true) (d : Option Tmp) (hd : o.dst = d)
    (h : wpList P ops Q rest (a.put d (.agg vs.toArray)) w) : wpList P ops Q (o :: rest) a w := by
  subst hd hn
  refine wpList_step fun K hK => ?_
  rw [if_pos hw]
  exact wp_load_mid ty x ho g j hx vs b hc hu hb hs (hK _ _ h)
end Go.Cour
namespace Go.Proofs.YtlikinglgegclaaGreatDoor
open Go.RowKit Go.Cour
/-- A reader's state: where it is, and its error. -/
structure RSt where
  a : Nat
  c : Int
  p : Bool
  n : Int
def r9C (v : Value) (s : RSt) : List Value := [v, .int .i64 (s.a : Int), .int .i64 s.c, .bool s.p, .int .i64 s.n]
/-- So many bytes are taken; or they are not there. -/
def RSt.step (m : Nat) (s : RSt) (k : Nat) : RSt := if s.c ≠ 0 then s else if s.a + k ≤ m then ⟨s.a + k, s.c, s.p, s.n⟩ else ⟨s.a, 103, true, (s.a : Int)⟩
def rGot (xs : List Int) (s : RSt) (k : Nat) : List Int := if s.c = 0 ∧ s.a + k ≤ xs.length then (xs.drop s.a).take k else []
set_option maxHeartbeats 400000 in
theorem fbad_calls (c : Int) (p : Bool) (n : Int) (w : World) : Calls Tryz.prog 34 #[.agg (faultC c p n).toArray] w fun e w' => e = .returned (.bool (!(c == 0))) ∧ Below w.heap.size w w' := by
  have hS := HS.start NoF w
  cases hc : (c == 0)
  all_goals
    go_enter Tryz.func34, Tryz.ntmps34
    go_wp2_with (first
      | (refine box_blk rfl 44 _ rfl _ rfl (faultC c p n) rfl ?_; intro g1 w1 hga hba hBa hsa; replace hS := hS.pushBlk hBa hba hga; clear hga hba hBa hsa; have c1 := hS.cell 0 rfl 0; simp only [faultC, List.getElem?_cons_zero] at c1)
      | fail)
    go_ret
    exact ⟨by simp_all, hS.bel⟩
theorem undFR : ∃ b, Tryz.prog.underlying 44 = some b ∧ b.isRow = true := ⟨_, Tryz.underlying44, rfl⟩
set_option maxHeartbeats 400000 in
set_option maxRecDepth 100000 in
theorem r9fine_calls (gr : Nat) (v : Value) (s : RSt) (bb : Bool) (w : World) (hb : Blk w gr 72 (r9C v s)) (hbb : (s.c == 0) = bb) : Calls Tryz.prog 59 #[.pointer (some ⟨gr, 0, none⟩)] w fun e w' => e = .returned (.bool bb) ∧ Below w.heap.size w w' := by
  obtain ⟨b, hu, hbr⟩ := undFR
  have HB := hid hb
  have HBB := hid hbb
  clear hb hbb
  go_enter Tryz.func59, Tryz.ntmps59
  go_wp2_with (first
    | (refine load_cells rfl 44 _ rfl gr 2 rfl (faultC s.c s.p s.n) (fun m u hm => by rw [HB.out.cell]; match m, hm with | 0, hm => exact hm | 1, hm => exact hm | 2, hm => exact hm) 3 infoF rfl b hu hbr _ rfl ?_)
    | (go_at_call 34; refine (fbad_calls s.c s.p s.n _).mono ?_; rintro e w2 ⟨rfl, hB⟩; rw [HBB.out])
    | fail)
  go_ret
  exact ⟨by simp, hB⟩
set_option maxHeartbeats 400000 in
set_option maxRecDepth 100000 in
theorem r9fail_calls (gr : Nat) (v : Value) (s : RSt) (code at_ : Int) (w : World) (hb : Blk w gr 72 (r9C v s)) (hs : s.c = 0) (hcode : code ≠ 0) : Calls Tryz.prog 60 #[.pointer (some ⟨gr, 0, none⟩), .int .i64 code, .int .i64 at_] w fun e w' => e = .returned (.tuple #[]) ∧ HS (fun k => k = gr) w w' [.blk gr 72 (r9C v ⟨s.a, code, true, at_⟩)] := by
  have hS := (HS.start (fun k => k = gr) w).take (.blk gr 72 (r9C v s)) hb (fun k hk => .inl hk) (fun f hf => by cases hf)
  have HC := hid hcode
  have hbb : Hd ((s.c == 0) = true) := hid (by rw [hs]; rfl)
  clear hb hcode hs
  obtain ⟨F, hF⟩ : ∃ F, Hd ((fun k => k = gr) = F) := ⟨_, hid rfl⟩
  rw [hF.out] at hS ⊢
  go_enter Tryz.func60, Tryz.ntmps60
  go_wp2_with (first
    | (go_at_call 59; refine (r9fine_calls gr v s true _ (hS.blk 0 rfl) hbb.out).mono ?_; rintro e w2 ⟨rfl, hB⟩; replace hS : HS F w w2 [.blk gr 72 (r9C v s)] := hS.below hB; clear hB)
    | (go_at_call 63; refine (placed_calls code at_ HC.out _).mono ?_; rintro e w3 ⟨rfl, hB⟩; replace hS : HS F w w3 [.blk gr 72 (r9C v s)] := hS.below hB; clear hB)
    | (refine hs_storeN hS 0 rfl rfl 44 _ _ rfl 2 rfl (faultC code true at_) rfl (by simp [faultC, Value.oneCell']) 3 infoF rfl (by simp [r9C]) _ rfl ?_; clear hS; intro w5 hS; replace hS : HS F w w5 [.blk gr 72 (r9C v ⟨s.a, code, true, at_⟩)] := hS)
    | fail)
  exact bodyPost_void rfl rfl ⟨rfl, hS⟩
set_option maxHeartbeats 2000000 in
set_option maxRecDepth 100000 in
theorem r9raw_calls (gr m c k : Nat) (xs : List Int) (A : Option Addr) (s : RSt) (w : World) (hb : Blk w gr 72 (r9C (.slice A m c) s)) (hx : xs.length = m) (hr : Rd w A .u8 xs) (hA : A = none → c = 0) (hsep : ∀ ad, A = some ad → xs ≠ [] → ad.block ≠ gr) (ha : s.a ≤ m) (hc : m ≤ c) (hm : m ≤ 1000000) (hk : k ≤ 1000000) :
    Calls Tryz.prog 57 #[.pointer (some ⟨gr, 0, none⟩), .int .i64 (k : Int)] w fun e w' => ∃ v, e = .returned v ∧ HS (fun k => k = gr) w w' [.os 5 v (ints .u8 (rGot xs s k)), .blk gr 72 (r9C (.slice A m c) (s.step m k))] := by
  have hS := (HS.start (fun k => k = gr) w).take (.blk gr 72 (r9C (.slice A m c) s)) hb (fun k hk => .inl hk) (fun f hf => by cases hf)
  have HR := hid hr
  have HX := hid hx
  have HAA := hid hA
  have hk0 : ¬ (k : Int) < 0 := by omega
  have HG : Hd (∀ j, (fun k => k = gr) j → j = gr) := hid (fun _ h => h)
  obtain ⟨F, hF⟩ : ∃ F, Hd ((fun k => k = gr) = F) := ⟨_, hid rfl⟩
  have HSEP : Hd (∀ ad, A = some ad → xs ≠ [] → ¬ F ad.block) := hid (by rw [← hF.out]; exact hsep)
  rw [hF.out] at hS ⊢
  clear hb hr hx hA hsep
  obtain ⟨sa, sc, sp, sn⟩ := s
  simp only at ha
  by_cases hs0 : sc = 0
  · subst hs0
    by_cases hfit : sa + k ≤ m
    · have hst : RSt.step m ⟨sa, 0, sp, sn⟩ k = ⟨sa + k, 0, sp, sn⟩ := by unfold RSt.step; rw [if_neg (by simp), if_pos hfit]
      have hgo : rGot xs ⟨sa, 0, sp, sn⟩ k = (xs.drop sa).take k := by unfold rGot; rw [if_pos ⟨rfl, by rw [HX.out]; exact hfit⟩]
      rw [hst, hgo]
      clear hst hgo
      have hlt : ¬ ((m : Int) - (sa : Int) < (k : Int)) := by omega
      obtain ⟨h, hh⟩ : ∃ h : Nat, (sa : Int) + (k : Int) = (h : Int) := ⟨sa + k, by omega⟩
      have hh2 : (h : Int) - (k : Int) = (sa : Int) := by omega
      have HH : Hd (sa + k = h) := hid (by omega)
      rw [HH.out]
      have HXL : Hd (k = ((xs.drop sa).take k).length) := hid (by rw [List.length_take, List.length_drop, HX.out]; omega)
      have HRC : Hd (∀ w', HS F w w' [] → Rd w' (cutA A c sa) .u8 ((xs.drop sa).take k)) := hid (fun w' h => rd_cut k (h.oldRd HR.out HSEP.out) (by rw [HX.out]; omega) (by rw [HX.out]; exact hc))
      obtain ⟨X, hX⟩ : ∃ X, (xs.drop sa).take k = X := ⟨_, rfl⟩
      rw [hX] at HXL HRC ⊢
      clear hX
      go_enter Tryz.func57, Tryz.ntmps57
      try go_wp2_with fail
      refine wp_region_S (F := F) (w0 := w) (L0 := [.blk gr 72 (r9C (.slice A m c) ⟨sa, 0, sp, sn⟩)]) [1] []
        (fun iK u E => match iK with
          | 1 => u = .bool true ∧ E = []
          | _ => False)
        ([]) (by kernel_rfl) (by kernel_rfl) hS ?_
      show wpS _ _ _ _ _ _ _ _ _ _ [0, 1, 2, 3, 4, 5, 6, 7, 8, 9, 10, 11, 12, 13, 14, 15] _
      apply wpS_read (i := 0) rfl rfl ⟨_, hS⟩ rfl
      · intro w' hT'
        simp only [getElem_toArray, getElem_cons_zero, getElem_cons_succ]
        go_wp2_with fail
        first | exact ⟨rfl, rfl, rfl⟩ | rfl
      refine wpS_soft (i := 1) rfl rfl rfl (Nat.le_of_ble_eq_true rfl) ?_ ?_
      · intro w' hT
        simp only [getElem_toArray, getElem_cons_zero, getElem_cons_succ]
        go_wp2_with (first
          | (go_at_call 59; refine (r9fine_calls gr _ _ true _ (hT.blk 0 rfl) rfl).mono ?_; rintro e w6 ⟨rfl, hB⟩)
          | fail)
        exact SoftP.mk' (.bool true) ([]) rfl (⟨rfl, rfl⟩) (hT.below hB) (hB) (fun _ h => by cases h)
      intro u1 E1 hK1
      obtain ⟨rfl, rfl⟩ := hK1
      simp only [Act.put, List.setIfInBounds_toArray, List.set_cons_zero, List.set_cons_succ]
      apply wpS_read (i := 2) rfl rfl ⟨_, hS⟩ rfl
      · intro w' hT'
        simp only [getElem_toArray, getElem_cons_zero, getElem_cons_succ]
        go_wp2_with fail
        first | exact ⟨rfl, rfl, rfl⟩ | rfl
      apply wpS_read (i := 3) rfl rfl ⟨_, hS⟩ rfl
      · intro w' hT'
        simp only [getElem_toArray, getElem_cons_zero, getElem_cons_succ]
        go_wp2_with fail
        first | exact ⟨rfl, rfl, rfl⟩ | rfl
      apply wpS_read (i := 4) rfl rfl ⟨_, hS⟩ rfl
      · intro w' hT'
        simp only [getElem_toArray, getElem_cons_zero, getElem_cons_succ]
        go_wp2_with fail
        first | exact ⟨rfl, rfl, rfl⟩ | rfl
      apply wpS_read (i := 5) rfl rfl ⟨_, hS⟩ rfl
      · intro w' hT'
        simp only [getElem_toArray, getElem_cons_zero, getElem_cons_succ]
        go_wp2_with fail
        first | exact ⟨rfl, rfl, rfl⟩ | rfl
      apply wpS_read (i := 6) rfl rfl ⟨_, hS⟩ rfl
      · intro w' hT'
        simp only [getElem_toArray, getElem_cons_zero, getElem_cons_succ]
        go_wp2_with fail
        first | exact ⟨rfl, rfl, rfl⟩ | rfl
      apply wpS_read (i := 7) rfl rfl ⟨_, hS⟩ rfl
      · intro w' hT'
        simp only [getElem_toArray, getElem_cons_zero, getElem_cons_succ]
        have c0 : w'.cell? ⟨gr, 0, none⟩ = some (.slice A m c) := hT'.cell 0 rfl 0
        have c1 : w'.cell? ⟨gr, 1, none⟩ = some (.int .i64 (sa : Int)) := hT'.cell 0 rfl 1
        go_wp2_with fail
        first | exact ⟨rfl, rfl, rfl⟩ | rfl
      apply wpS_read (i := 8) rfl rfl ⟨_, hS⟩ rfl
      · intro w' hT'
        simp only [getElem_toArray, getElem_cons_zero, getElem_cons_succ]
        go_wp2_with fail
        first | exact ⟨rfl, rfl, rfl⟩ | rfl
      apply wpS_read (i := 9) rfl rfl ⟨_, hS⟩ rfl
      · intro w' hT'
        simp only [getElem_toArray, getElem_cons_zero, getElem_cons_succ]
        go_wp2_with fail
        first | exact ⟨rfl, rfl, rfl⟩ | rfl
      apply wpS_read (i := 10) rfl rfl ⟨_, hS⟩ rfl
      · intro w' hT'
        simp only [getElem_toArray, getElem_cons_zero, getElem_cons_succ]
        go_wp2_with fail
        first | exact ⟨rfl, rfl, rfl⟩ | rfl
      apply wpS_read (i := 11) rfl rfl ⟨_, hS⟩ rfl
      · intro w' hT'
        simp only [getElem_toArray, getElem_cons_zero, getElem_cons_succ]
        go_wp2_with fail
        first | exact ⟨rfl, rfl, rfl⟩ | rfl
      apply wpS_read (i := 12) rfl rfl ⟨_, hS⟩ rfl
      · intro w' hT'
        simp only [getElem_toArray, getElem_cons_zero, getElem_cons_succ]
        have c0 : w'.cell? ⟨gr, 0, none⟩ = some (.slice A m c) := hT'.cell 0 rfl 0
        have c1 : w'.cell? ⟨gr, 1, none⟩ = some (.int .i64 (sa : Int)) := hT'.cell 0 rfl 1
        go_wp2_with fail
        first | exact ⟨rfl, rfl, rfl⟩ | rfl
      apply wpS_read (i := 13) rfl rfl ⟨_, hS⟩ rfl
      · intro w' hT'
        simp only [getElem_toArray, getElem_cons_zero, getElem_cons_succ]
        go_wp2_with fail
        first | exact ⟨rfl, rfl, rfl⟩ | rfl
      apply wpS_read (i := 14) rfl rfl ⟨_, hS⟩ rfl
      · intro w' hT'
        simp only [getElem_toArray, getElem_cons_zero, getElem_cons_succ]
        go_wp2_with fail
        first | exact ⟨rfl, rfl, rfl⟩ | rfl
      apply wpS_read (i := 15) rfl rfl ⟨_, hS⟩ rfl
      · intro w' hT'
        simp only [getElem_toArray, getElem_cons_zero, getElem_cons_succ]
        go_wp2_with fail
        first | exact ⟨rfl, rfl, rfl⟩ | rfl
      refine wpS_end ?_
      intro wz hT
      try dsimp only
      clear hS
      have hS : HS F w wz [.blk gr 72 (r9C (.slice A m c) ⟨sa, 0, sp, sn⟩)] := hT
      clear hT
      have c1 : wz.cell? ⟨gr, 1, none⟩ = some (.int .i64 (sa : Int)) := hS.cell 0 rfl 1
      go_wp2_with (first
      | (go_at_call 59; refine (r9fine_calls gr _ _ true _ (hS.blk 0 rfl) rfl).mono ?_; rintro e w6 ⟨rfl, hB⟩; replace hS : HS F w w6 [.blk gr 72 (r9C (.slice A m c) ⟨sa, 0, sp, sn⟩)] := hS.below hB; replace c1 := (hB.cell (lt_of_cell c1)).trans c1; clear hB)
      | (refine hs_store1 hS 0 rfl rfl 3 _ _ rfl 1 rfl (.int .i64 (h : Int)) rfl rfl sizeIntC (by simp [r9C]) _ rfl ?_; clear hS c1; intro w7 hS; replace hS : HS F w w7 [.blk gr 72 (r9C (.slice A m c) ⟨h, 0, sp, sn⟩)] := hS)
      | fail)
      try go_wp2_with fail
      refine wp_region_S (F := F) (w0 := w) (L0 := [.blk gr 72 (r9C (.slice A m c) ⟨h, 0, sp, sn⟩)]) [15] []
        (fun iK u E => match iK with
          | 15 => E = [.os 5 u (ints .u8 X)]
          | _ => False)
        ([]) (by kernel_rfl) (by kernel_rfl) hS ?_
      show wpS _ _ _ _ _ _ _ _ _ _ [0, 1, 2, 3, 4, 5, 6, 7, 8, 9, 10, 11, 12, 13, 14, 15, 16] _
      apply wpS_read (i := 0) rfl rfl ⟨_, hS⟩ rfl
      · intro w' hT'
        simp only [getElem_toArray, getElem_cons_zero, getElem_cons_succ]
        go_wp2_with fail
        first | exact ⟨rfl, rfl, rfl⟩ | rfl
      apply wpS_read (i := 1) rfl rfl ⟨_, hS⟩ rfl
      · intro w' hT'
        simp only [getElem_toArray, getElem_cons_zero, getElem_cons_succ]
        go_wp2_with fail
        first | exact ⟨rfl, rfl, rfl⟩ | rfl
      apply wpS_read (i := 2) rfl rfl ⟨_, hS⟩ rfl
      · intro w' hT'
        simp only [getElem_toArray, getElem_cons_zero, getElem_cons_succ]
        go_wp2_with fail
        first | exact ⟨rfl, rfl, rfl⟩ | rfl
      apply wpS_read (i := 3) rfl rfl ⟨_, hS⟩ rfl
      · intro w' hT'
        simp only [getElem_toArray, getElem_cons_zero, getElem_cons_succ]
        have c0 : w'.cell? ⟨gr, 0, none⟩ = some (.slice A m c) := hT'.cell 0 rfl 0
        have c1 : w'.cell? ⟨gr, 1, none⟩ = some (.int .i64 (h : Int)) := hT'.cell 0 rfl 1
        go_wp2_with (first
          | (refine slice_anyC rfl _ _ _ 29 rfl 5 undBytes sizeU8C A m c sa h k rfl rfl rfl (by omega) (by omega) (by omega) _ rfl ?_)
          | fail)
        first | exact ⟨rfl, rfl, rfl⟩ | rfl
      apply wpS_read (i := 4) rfl rfl ⟨_, hS⟩ rfl
      · intro w' hT'
        simp only [getElem_toArray, getElem_cons_zero, getElem_cons_succ]
        go_wp2_with fail
        first | exact ⟨rfl, rfl, rfl⟩ | rfl
      apply wpS_read (i := 5) rfl rfl ⟨_, hS⟩ rfl
      · intro w' hT'
        simp only [getElem_toArray, getElem_cons_zero, getElem_cons_succ]
        go_wp2_with fail
        first | exact ⟨rfl, rfl, rfl⟩ | rfl
      apply wpS_read (i := 6) rfl rfl ⟨_, hS⟩ rfl
      · intro w' hT'
        simp only [getElem_toArray, getElem_cons_zero, getElem_cons_succ]
        go_wp2_with fail
        first | exact ⟨rfl, rfl, rfl⟩ | rfl
      apply wpS_read (i := 7) rfl rfl ⟨_, hS⟩ rfl
      · intro w' hT'
        simp only [getElem_toArray, getElem_cons_zero, getElem_cons_succ]
        have c0 : w'.cell? ⟨gr, 0, none⟩ = some (.slice A m c) := hT'.cell 0 rfl 0
        have c1 : w'.cell? ⟨gr, 1, none⟩ = some (.int .i64 (h : Int)) := hT'.cell 0 rfl 1
        go_wp2_with (first
          | (refine slice_anyC rfl _ _ _ 29 rfl 5 undBytes sizeU8C A m c sa h k rfl rfl rfl (by omega) (by omega) (by omega) _ rfl ?_)
          | fail)
        first | exact ⟨rfl, rfl, rfl⟩ | rfl
      apply wpS_read (i := 8) rfl rfl ⟨_, hS⟩ rfl
      · intro w' hT'
        simp only [getElem_toArray, getElem_cons_zero, getElem_cons_succ]
        go_wp2_with fail
        first | exact ⟨rfl, rfl, rfl⟩ | rfl
      apply wpS_read (i := 9) rfl rfl ⟨_, hS⟩ rfl
      · intro w' hT'
        simp only [getElem_toArray, getElem_cons_zero, getElem_cons_succ]
        go_wp2_with (first
          | (refine slice_anyC rfl _ _ _ 29 rfl 5 undBytes sizeU8C A m c sa h k rfl rfl rfl (by omega) (by omega) (by omega) _ rfl ?_)
          | fail)
        first | exact ⟨rfl, rfl, rfl⟩ | rfl
      apply wpS_read (i := 10) rfl rfl ⟨_, hS⟩ rfl
      · intro w' hT'
        simp only [getElem_toArray, getElem_cons_zero, getElem_cons_succ]
        go_wp2_with fail
        first | exact ⟨rfl, rfl, rfl⟩ | rfl
      apply wpS_read (i := 11) rfl rfl ⟨_, hS⟩ rfl
      · intro w' hT'
        simp only [getElem_toArray, getElem_cons_zero, getElem_cons_succ]
        go_wp2_with fail
        first | exact ⟨rfl, rfl, rfl⟩ | rfl
      apply wpS_read (i := 12) rfl rfl ⟨_, hS⟩ rfl
      · intro w' hT'
        simp only [getElem_toArray, getElem_cons_zero, getElem_cons_succ]
        go_wp2_with fail
        first | exact ⟨rfl, rfl, rfl⟩ | rfl
      apply wpS_read (i := 13) rfl rfl ⟨_, hS⟩ rfl
      · intro w' hT'
        simp only [getElem_toArray, getElem_cons_zero, getElem_cons_succ]
        have c0 : w'.cell? ⟨gr, 0, none⟩ = some (.slice A m c) := hT'.cell 0 rfl 0
        have c1 : w'.cell? ⟨gr, 1, none⟩ = some (.int .i64 (h : Int)) := hT'.cell 0 rfl 1
        go_wp2_with (first
          | (refine slice_anyC rfl _ _ _ 29 rfl 5 undBytes sizeU8C A m c sa h k rfl rfl rfl (by omega) (by omega) (by omega) _ rfl ?_)
          | fail)
        first | exact ⟨rfl, rfl, rfl⟩ | rfl
      apply wpS_read (i := 14) rfl rfl ⟨_, hS⟩ rfl
      · intro w' hT'
        simp only [getElem_toArray, getElem_cons_zero, getElem_cons_succ]
        go_wp2_with (first
          | (refine slice_anyC rfl _ _ _ 29 rfl 5 undBytes sizeU8C A m c sa h k rfl rfl rfl (by omega) (by omega) (by omega) _ rfl ?_)
          | fail)
        first | exact ⟨rfl, rfl, rfl⟩ | rfl
      refine wpS_soft (i := 15) rfl rfl rfl (Nat.le_of_ble_eq_true rfl) ?_ ?_
      · intro w' hT
        simp only [getElem_toArray, getElem_cons_zero, getElem_cons_succ]
        go_wp2_with (first
          | (go_at_call 7; refine (bytes_calls X (cutA A c sa) (c - sa) k _ HXL.out (HRC.out _ (hT.sub (List.nil_sublist _))) (by omega)).mono ?_; rintro e w6 ⟨v, rfl, ho, hB⟩)
          | fail)
        exact SoftP.mk' (v) ([.os 5 v (ints .u8 X)]) rfl (rfl) (hT.pushOwn hB ho) (hB) (fun e he j hj => by obtain rfl := List.mem_singleton.1 he; exact ho.base_le j hj)
      intro u15 E15 hK15
      obtain rfl := hK15
      simp only [Act.put, List.setIfInBounds_toArray, List.set_cons_zero, List.set_cons_succ]
      apply wpS_read (i := 16) rfl rfl ⟨_, hS⟩ rfl
      · intro w' hT'
        simp only [getElem_toArray, getElem_cons_zero, getElem_cons_succ]
        go_wp2_with fail
        first | exact ⟨rfl, rfl, rfl⟩ | rfl
      refine wpS_end ?_
      intro wz hT
      try dsimp only
      clear hS
      have hS : HS F w wz [.os 5 u15 (ints .u8 X), .blk gr 72 (r9C (.slice A m c) ⟨h, 0, sp, sn⟩)] := hT
      clear hT
      go_wp2_with fail
      refine bodyPost_ret (results_tmp rfl _ _ _) rfl ?_
      exact ⟨_, rfl, hS⟩
    · have hst : RSt.step m ⟨sa, 0, sp, sn⟩ k = ⟨sa, 103, true, (sa : Int)⟩ := by unfold RSt.step; rw [if_neg (by simp), if_neg hfit]
      have hgo : rGot xs ⟨sa, 0, sp, sn⟩ k = [] := by unfold rGot; rw [if_neg (fun h => hfit (by rw [← HX.out]; exact h.2))]
      rw [hst, hgo]
      clear hst hgo
      have hlt : (m : Int) - (sa : Int) < (k : Int) := by omega
      go_enter Tryz.func57, Tryz.ntmps57
      try go_wp2_with fail
      refine wp_region_S (F := F) (w0 := w) (L0 := [.blk gr 72 (r9C (.slice A m c) ⟨sa, 0, sp, sn⟩)]) [1] []
        (fun iK u E => match iK with
          | 1 => u = .bool true ∧ E = []
          | _ => False)
        ([]) (by kernel_rfl) (by kernel_rfl) hS ?_
      show wpS _ _ _ _ _ _ _ _ _ _ [0, 1, 2, 3, 4, 5, 6, 7, 8, 9, 10, 11, 12, 13, 14, 15] _
      apply wpS_read (i := 0) rfl rfl ⟨_, hS⟩ rfl
      · intro w' hT'
        simp only [getElem_toArray, getElem_cons_zero, getElem_cons_succ]
        go_wp2_with fail
        first | exact ⟨rfl, rfl, rfl⟩ | rfl
      refine wpS_soft (i := 1) rfl rfl rfl (Nat.le_of_ble_eq_true rfl) ?_ ?_
      · intro w' hT
        simp only [getElem_toArray, getElem_cons_zero, getElem_cons_succ]
        go_wp2_with (first
          | (go_at_call 59; refine (r9fine_calls gr _ _ true _ (hT.blk 0 rfl) rfl).mono ?_; rintro e w6 ⟨rfl, hB⟩)
          | fail)
        exact SoftP.mk' (.bool true) ([]) rfl (⟨rfl, rfl⟩) (hT.below hB) (hB) (fun _ h => by cases h)
      intro u1 E1 hK1
      obtain ⟨rfl, rfl⟩ := hK1
      simp only [Act.put, List.setIfInBounds_toArray, List.set_cons_zero, List.set_cons_succ]
      apply wpS_read (i := 2) rfl rfl ⟨_, hS⟩ rfl
      · intro w' hT'
        simp only [getElem_toArray, getElem_cons_zero, getElem_cons_succ]
        go_wp2_with fail
        first | exact ⟨rfl, rfl, rfl⟩ | rfl
      apply wpS_read (i := 3) rfl rfl ⟨_, hS⟩ rfl
      · intro w' hT'
        simp only [getElem_toArray, getElem_cons_zero, getElem_cons_succ]
        go_wp2_with fail
        first | exact ⟨rfl, rfl, rfl⟩ | rfl
      apply wpS_read (i := 4) rfl rfl ⟨_, hS⟩ rfl
      · intro w' hT'
        simp only [getElem_toArray, getElem_cons_zero, getElem_cons_succ]
        go_wp2_with fail
        first | exact ⟨rfl, rfl, rfl⟩ | rfl
      apply wpS_read (i := 5) rfl rfl ⟨_, hS⟩ rfl
      · intro w' hT'
        simp only [getElem_toArray, getElem_cons_zero, getElem_cons_succ]
        go_wp2_with fail
        first | exact ⟨rfl, rfl, rfl⟩ | rfl
      apply wpS_read (i := 6) rfl rfl ⟨_, hS⟩ rfl
      · intro w' hT'
        simp only [getElem_toArray, getElem_cons_zero, getElem_cons_succ]
        go_wp2_with fail
        first | exact ⟨rfl, rfl, rfl⟩ | rfl
      apply wpS_read (i := 7) rfl rfl ⟨_, hS⟩ rfl
      · intro w' hT'
        simp only [getElem_toArray, getElem_cons_zero, getElem_cons_succ]
        have c0 : w'.cell? ⟨gr, 0, none⟩ = some (.slice A m c) := hT'.cell 0 rfl 0
        have c1 : w'.cell? ⟨gr, 1, none⟩ = some (.int .i64 (sa : Int)) := hT'.cell 0 rfl 1
        go_wp2_with fail
        first | exact ⟨rfl, rfl, rfl⟩ | rfl
      apply wpS_read (i := 8) rfl rfl ⟨_, hS⟩ rfl
      · intro w' hT'
        simp only [getElem_toArray, getElem_cons_zero, getElem_cons_succ]
        go_wp2_with fail
        first | exact ⟨rfl, rfl, rfl⟩ | rfl
      apply wpS_read (i := 9) rfl rfl ⟨_, hS⟩ rfl
      · intro w' hT'
        simp only [getElem_toArray, getElem_cons_zero, getElem_cons_succ]
        go_wp2_with fail
        first | exact ⟨rfl, rfl, rfl⟩ | rfl
      apply wpS_read (i := 10) rfl rfl ⟨_, hS⟩ rfl
      · intro w' hT'
        simp only [getElem_toArray, getElem_cons_zero, getElem_cons_succ]
        go_wp2_with fail
        first | exact ⟨rfl, rfl, rfl⟩ | rfl
      apply wpS_read (i := 11) rfl rfl ⟨_, hS⟩ rfl
      · intro w' hT'
        simp only [getElem_toArray, getElem_cons_zero, getElem_cons_succ]
        go_wp2_with fail
        first | exact ⟨rfl, rfl, rfl⟩ | rfl
      apply wpS_read (i := 12) rfl rfl ⟨_, hS⟩ rfl
      · intro w' hT'
        simp only [getElem_toArray, getElem_cons_zero, getElem_cons_succ]
        have c0 : w'.cell? ⟨gr, 0, none⟩ = some (.slice A m c) := hT'.cell 0 rfl 0
        have c1 : w'.cell? ⟨gr, 1, none⟩ = some (.int .i64 (sa : Int)) := hT'.cell 0 rfl 1
        go_wp2_with fail
        first | exact ⟨rfl, rfl, rfl⟩ | rfl
      apply wpS_read (i := 13) rfl rfl ⟨_, hS⟩ rfl
      · intro w' hT'
        simp only [getElem_toArray, getElem_cons_zero, getElem_cons_succ]
        go_wp2_with fail
        first | exact ⟨rfl, rfl, rfl⟩ | rfl
      apply wpS_read (i := 14) rfl rfl ⟨_, hS⟩ rfl
      · intro w' hT'
        simp only [getElem_toArray, getElem_cons_zero, getElem_cons_succ]
        go_wp2_with fail
        first | exact ⟨rfl, rfl, rfl⟩ | rfl
      apply wpS_read (i := 15) rfl rfl ⟨_, hS⟩ rfl
      · intro w' hT'
        simp only [getElem_toArray, getElem_cons_zero, getElem_cons_succ]
        go_wp2_with fail
        first | exact ⟨rfl, rfl, rfl⟩ | rfl
      refine wpS_end ?_
      intro wz hT
      try dsimp only
      clear hS
      have hS : HS F w wz [.blk gr 72 (r9C (.slice A m c) ⟨sa, 0, sp, sn⟩)] := hT
      clear hT
      have c1 : wz.cell? ⟨gr, 1, none⟩ = some (.int .i64 (sa : Int)) := hS.cell 0 rfl 1
      go_wp2_with (first
      | (go_at_call 60; refine (r9fail_calls gr _ _ 103 (sa : Int) _ (hS.blk 0 rfl) rfl (by decide)).mono ?_; rintro e w6 ⟨rfl, hq⟩; replace hS : HS F w w6 [.blk gr 72 (r9C (.slice A m c) ⟨sa, 103, true, (sa : Int)⟩)] := HS.call (A := [.blk gr 72 (r9C (.slice A m c) ⟨sa, 0, sp, sn⟩)]) hS hq (fun j hj => ⟨_, List.mem_singleton.2 rfl, hj⟩); clear hq c1)
      | (go_at_call 59; refine (r9fine_calls gr _ _ false _ (hS.blk 0 rfl) rfl).mono ?_; rintro e w7 ⟨rfl, hB⟩; replace hS : HS F w w7 [.blk gr 72 (r9C (.slice A m c) ⟨sa, 103, true, (sa : Int)⟩)] := hS.below hB; clear hB)
      | fail)
      go_ret
      exact ⟨_, rfl, hS.take _ (OwnS.nil _ _) (fun k hk => by cases hk) (fun f hf k hk => by cases hk)⟩
  · have hst : RSt.step m ⟨sa, sc, sp, sn⟩ k = ⟨sa, sc, sp, sn⟩ := by unfold RSt.step; rw [if_pos hs0]
    have hgo : rGot xs ⟨sa, sc, sp, sn⟩ k = [] := by unfold rGot; rw [if_neg (fun h => hs0 h.1)]
    rw [hst, hgo]
    have HF0 : Hd ((sc == 0) = false) := hid (by simpa using hs0)
    clear hst hgo hs0
    go_enter Tryz.func57, Tryz.ntmps57
    try go_wp2_with fail
    refine wp_region_S (F := F) (w0 := w) (L0 := [.blk gr 72 (r9C (.slice A m c) ⟨sa, sc, sp, sn⟩)]) [1] []
      (fun iK u E => match iK with
        | 1 => u = .bool false ∧ E = []
        | _ => False)
      ([]) (by kernel_rfl) (by kernel_rfl) hS ?_
    show wpS _ _ _ _ _ _ _ _ _ _ [0, 1, 2, 3, 4, 5, 6, 7, 8, 9, 10, 11, 12, 13, 14, 15] _
    apply wpS_read (i := 0) rfl rfl ⟨_, hS⟩ rfl
    · intro w' hT'
      simp only [getElem_toArray, getElem_cons_zero, getElem_cons_succ]
      go_wp2_with fail
      first | exact ⟨rfl, rfl, rfl⟩ | rfl
    refine wpS_soft (i := 1) rfl rfl rfl (Nat.le_of_ble_eq_true rfl) ?_ ?_
    · intro w' hT
      simp only [getElem_toArray, getElem_cons_zero, getElem_cons_succ]
      go_wp2_with (first
        | (go_at_call 59; refine (r9fine_calls gr _ _ false _ (hT.blk 0 rfl) HF0.out).mono ?_; rintro e w6 ⟨rfl, hB⟩)
        | fail)
      exact SoftP.mk' (.bool false) ([]) rfl (⟨rfl, rfl⟩) (hT.below hB) (hB) (fun _ h => by cases h)
    intro u1 E1 hK1
    obtain ⟨rfl, rfl⟩ := hK1
    simp only [Act.put, List.setIfInBounds_toArray, List.set_cons_zero, List.set_cons_succ]
    apply wpS_read (i := 2) rfl rfl ⟨_, hS⟩ rfl
    · intro w' hT'
      simp only [getElem_toArray, getElem_cons_zero, getElem_cons_succ]
      go_wp2_with fail
      first | exact ⟨rfl, rfl, rfl⟩ | rfl
    apply wpS_read (i := 3) rfl rfl ⟨_, hS⟩ rfl
    · intro w' hT'
      simp only [getElem_toArray, getElem_cons_zero, getElem_cons_succ]
      go_wp2_with fail
      first | exact ⟨rfl, rfl, rfl⟩ | rfl
    apply wpS_read (i := 4) rfl rfl ⟨_, hS⟩ rfl
    · intro w' hT'
      simp only [getElem_toArray, getElem_cons_zero, getElem_cons_succ]
      go_wp2_with fail
      first | exact ⟨rfl, rfl, rfl⟩ | rfl
    apply wpS_read (i := 5) rfl rfl ⟨_, hS⟩ rfl
    · intro w' hT'
      simp only [getElem_toArray, getElem_cons_zero, getElem_cons_succ]
      go_wp2_with fail
      first | exact ⟨rfl, rfl, rfl⟩ | rfl
    apply wpS_read (i := 6) rfl rfl ⟨_, hS⟩ rfl
    · intro w' hT'
      simp only [getElem_toArray, getElem_cons_zero, getElem_cons_succ]
      go_wp2_with fail
      first | exact ⟨rfl, rfl, rfl⟩ | rfl
    apply wpS_read (i := 7) rfl rfl ⟨_, hS⟩ rfl
    · intro w' hT'
      simp only [getElem_toArray, getElem_cons_zero, getElem_cons_succ]
      have c0 : w'.cell? ⟨gr, 0, none⟩ = some (.slice A m c) := hT'.cell 0 rfl 0
      have c1 : w'.cell? ⟨gr, 1, none⟩ = some (.int .i64 (sa : Int)) := hT'.cell 0 rfl 1
      go_wp2_with fail
      first | exact ⟨rfl, rfl, rfl⟩ | rfl
    apply wpS_read (i := 8) rfl rfl ⟨_, hS⟩ rfl
    · intro w' hT'
      simp only [getElem_toArray, getElem_cons_zero, getElem_cons_succ]
      go_wp2_with fail
      first | exact ⟨rfl, rfl, rfl⟩ | rfl
    apply wpS_read (i := 9) rfl rfl ⟨_, hS⟩ rfl
    · intro w' hT'
      simp only [getElem_toArray, getElem_cons_zero, getElem_cons_succ]
      go_wp2_with fail
      first | exact ⟨rfl, rfl, rfl⟩ | rfl
    apply wpS_read (i := 10) rfl rfl ⟨_, hS⟩ rfl
    · intro w' hT'
      simp only [getElem_toArray, getElem_cons_zero, getElem_cons_succ]
      go_wp2_with fail
      first | exact ⟨rfl, rfl, rfl⟩ | rfl
    apply wpS_read (i := 11) rfl rfl ⟨_, hS⟩ rfl
    · intro w' hT'
      simp only [getElem_toArray, getElem_cons_zero, getElem_cons_succ]
      go_wp2_with fail
      first | exact ⟨rfl, rfl, rfl⟩ | rfl
    apply wpS_read (i := 12) rfl rfl ⟨_, hS⟩ rfl
    · intro w' hT'
      simp only [getElem_toArray, getElem_cons_zero, getElem_cons_succ]
      have c0 : w'.cell? ⟨gr, 0, none⟩ = some (.slice A m c) := hT'.cell 0 rfl 0
      have c1 : w'.cell? ⟨gr, 1, none⟩ = some (.int .i64 (sa : Int)) := hT'.cell 0 rfl 1
      go_wp2_with fail
      first | exact ⟨rfl, rfl, rfl⟩ | rfl
    apply wpS_read (i := 13) rfl rfl ⟨_, hS⟩ rfl
    · intro w' hT'
      simp only [getElem_toArray, getElem_cons_zero, getElem_cons_succ]
      go_wp2_with fail
      first | exact ⟨rfl, rfl, rfl⟩ | rfl
    apply wpS_read (i := 14) rfl rfl ⟨_, hS⟩ rfl
    · intro w' hT'
      simp only [getElem_toArray, getElem_cons_zero, getElem_cons_succ]
      go_wp2_with fail
      first | exact ⟨rfl, rfl, rfl⟩ | rfl
    apply wpS_read (i := 15) rfl rfl ⟨_, hS⟩ rfl
    · intro w' hT'
      simp only [getElem_toArray, getElem_cons_zero, getElem_cons_succ]
      go_wp2_with fail
      first | exact ⟨rfl, rfl, rfl⟩ | rfl
    refine wpS_end ?_
    intro wz hT
    try dsimp only
    clear hS
    have hS : HS F w wz [.blk gr 72 (r9C (.slice A m c) ⟨sa, sc, sp, sn⟩)] := hT
    clear hT
    go_wp2_with (first
    | (go_at_call 59; refine (r9fine_calls gr _ _ false _ (hS.blk 0 rfl) HF0.out).mono ?_; rintro e w7 ⟨rfl, hB⟩; replace hS : HS F w w7 [.blk gr 72 (r9C (.slice A m c) ⟨sa, sc, sp, sn⟩)] := hS.below hB; clear hB)
    | fail)
    go_ret
    exact ⟨_, rfl, hS.take _ (OwnS.nil _ _) (fun k hk => by cases hk) (fun f hf k hk => by cases hk)⟩
end Go.Proofs.YtlikinglgegclaaGreatDoor
/- trap: Try. -/
namespace Go.Cour
open Go.RowKit
/-- A region of a deferred call that begins with recover. -/
theorem wpS_region_rec {P : Program} {id : Nat} {ops : Array Oper} {Q : Exit → Act → List Frame → World → Prop} {a : Act} {cs cs' : List Frame} {w : World} {o0 : Oper} {v : Value} (h0 : ops[0]? = some o0) (hw : Region.wanted o0 (yielded ops a.tmps) = true)
    (hrun : (execOp a.eval o0).run P w = .ok .recover w) (hrec : recoverD cs = some (v, cs') ∨ (recoverD cs = none ∧ v = .nilIface ∧ cs' = cs))
    (h : wpList P ops (fun e a' w' => Q e a' cs' w') (ops.toList.drop 1) (a.put o0.dst v) w) : (Code.region id ops false).wpS P Q a cs w := by
  intro b k hb hr
  have hpos : 0 < ops.size := (Array.getElem?_eq_some_iff.1 h0).1
  have hrange : List.range ops.size = 0 :: List.range' 1 (ops.toList.drop 1).length := by
    obtain ⟨n, hn⟩ : ∃ n, ops.size = n + 1 := ⟨ops.size - 1, by omega⟩
    rw [List.range_eq_range', hn, List.range'_succ]
    simp [hn]
  rw [← wpOps_eq_wpList (ops.toList.drop 1) 1 (fun j => by simp [List.getElem?_drop, Nat.add_comm])] at h
  generalize List.range' 1 (ops.toList.drop 1).length = l at *
  obtain ⟨e, a', w', hq, harr⟩ := wp_ops _ (a.put o0.dst v) w h b k cs'
  refine ⟨e, a', cs', w', hq, .of_steps (.head step_region (.one (step_lone_go ?_))) harr⟩
  rw [hrange]
  have hg := stepG_op (P := P) (b := b) (k := k) (cs := cs) (w := w) (rest := l) h0 hw
  have hfin : (b.at a (.inRegion ops (0 :: l) :: k)).finish v = b.at (a.put o0.dst v) (.inRegion ops (l) :: k) := by
    rw [Frame.finish_at, h0]; rfl
  have hk : (b.at a (.inRegion ops (0 :: l) :: k)).kind = .deferred := hb
  have htr := tryRecover_deferred hk cs
  rw [hg, ← hfin]
  rcases hrec with hrec | ⟨hrec, rfl, rfl⟩
  · simp only [Frame.at] at htr ⊢
    simp [stepG.apply, hrun, htr, hrec]
  · simp only [Frame.at] at htr ⊢
    simp [stepG.apply, hrun, htr, hrec]
end Go.Cour
namespace Go.Proofs.YtlikinglgegclaaGreatDoor
open Go.RowKit Go.Cour
theorem sizeErrT : (Tryz.prog.info? 40).map (·.size) = some 1 := by kernel_rfl
theorem zeroErrT : ((Tryz.prog.info? 40).bind (·.zero)).map (·.cells) = some [Value.nilIface].toArray := by kernel_rfl
theorem zeroThrown : ((Tryz.prog.info? 112).bind (·.zero)).map (·.cells) = some [Value.nilIface].toArray := by kernel_rfl
theorem sizeThrown : (Tryz.prog.info? 112).map (·.size) = some 1 := by kernel_rfl
theorem assert_thrown (g : Nat) (w : World) : (Instr.typeAssert (thrownV g) 20 112 true).run Tryz.prog w = .ok (.tuple #[.agg #[.iface 92 (.pointer (some ⟨g, 0, none⟩))], .bool true]) w := by kernel_rfl
theorem assert_noThrown (w : World) : (Instr.typeAssert .nilIface 20 112 true).run Tryz.prog w = .ok (.tuple #[.agg #[.nilIface], .bool false]) w := by kernel_rfl
set_option maxHeartbeats 1000000 in
set_option maxRecDepth 100000 in
theorem catch_panicking (gE g : Nat) (v : Value) (older : List PanicEntry) (w : World) (hb : Blk w gE 40 [v]) :
    CallsD Tryz.prog 78 #[.pointer (some ⟨gE, 0, none⟩)] (.panicking ({ v := thrownV g, recovered := false } :: older)) w fun e u' w' =>
      e = .returned (.tuple #[]) ∧ u' = .panicking ({ v := thrownV g, recovered := true } :: older) ∧ HS (fun k => k = gE) w w' [.blk gE 40 [.iface 92 (.pointer (some ⟨g, 0, none⟩))]] := by
  refine callsD_of_wpS Tryz.func78 rfl fun c₀ cs hu => ?_
  have hS := (HS.start (fun k => k = gE) w).take (.blk gE 40 [v]) hb (fun k hk => .inl hk) (fun f hf => by cases hf)
  have hta := assert_thrown g
  clear hb
  obtain ⟨F, hF⟩ : ∃ F, Hd ((fun k => k = gE) = F) := ⟨_, hid rfl⟩
  rw [hF.out] at hS ⊢
  apply wpS_seq
  refine wpS_region_rec rfl rfl rfl (v := thrownV g) (cs' := { c₀ with mode := .panicking ({ v := thrownV g, recovered := true } :: older) } :: cs) (.inl (by simp [recoverD, hu])) ?_
  simp only [Tryz.ntmps78, List.size_toArray, List.length_cons, List.length_nil, Nat.reduceAdd, Nat.reduceSub, Array.replicate_succ,
     Array.replicate_zero, List.push_toArray, List.append_toArray, List.nil_append, List.cons_append, List.drop_succ_cons, List.drop_zero, Act.put, List.setIfInBounds_toArray, List.set_cons_zero, List.set_cons_succ]
  generalize thrownV g = T at *
  go_wp2_with (first
    | (refine alloc_blk rfl 112 rfl _ rfl [.nilIface] zeroThrown ?_; intro g1 w1 hga hba hBa hsa; replace hS : HS F w w1 [.blk g1 112 [.nilIface], .blk gE 40 [v]] := hS.pushBlk hBa hba hga; clear hga hba hBa hsa)
    | (refine hs_storeW hS 0 rfl rfl 112 _ _ rfl rfl [.iface 92 (.pointer (some ⟨g, 0, none⟩))] rfl (fun v hv => by obtain rfl := List.mem_singleton.1 hv; rfl) 1 sizeThrown rfl rfl _ rfl ?_; clear hS; intro w2 hS; replace hS : HS F w w2 [.blk g1 112 [.iface 92 (.pointer (some ⟨g, 0, none⟩))], .blk gE 40 [v]] := hS)
    | fail)
  refine wpS_of_wp ?_
  have c0 : w2.cell? ⟨g1, 0, none⟩ = some (.iface 92 (.pointer (some ⟨g, 0, none⟩))) := hS.cell 0 rfl 0
  go_wp2_with (first
    | (refine hs_store1 hS 1 rfl rfl 40 _ _ rfl 0 rfl (.iface 92 (.pointer (some ⟨g, 0, none⟩))) rfl rfl sizeErrT (by simp) _ rfl ?_; clear hS; intro w5 hS; replace hS : HS F w w5 [.blk g1 112 [.iface 92 (.pointer (some ⟨g, 0, none⟩))], .blk gE 40 [.iface 92 (.pointer (some ⟨g, 0, none⟩))]] := hS)
    | fail)
  exact ⟨rfl, _, rfl, .tuple #[], results_none rfl _ _ _, rfl, rfl, hS.erase 0⟩
set_option maxHeartbeats 1000000 in
set_option maxRecDepth 100000 in
theorem catch_idle (gE : Nat) (w : World) :
    CallsD Tryz.prog 78 #[.pointer (some ⟨gE, 0, none⟩)] .returning w fun e u' w' => e = .returned (.tuple #[]) ∧ u' = .returning ∧ HS NoF w w' [] := by
  refine callsD_of_wpS Tryz.func78 rfl fun c₀ cs hu => ?_
  have hS := HS.start NoF w
  have hta := assert_noThrown
  apply wpS_seq
  refine wpS_region_rec rfl rfl rfl (v := .nilIface) (cs' := c₀ :: cs) (.inr ⟨by simp [recoverD, hu], rfl, rfl⟩) ?_
  simp only [Tryz.ntmps78, List.size_toArray, List.length_cons, List.length_nil, Nat.reduceAdd, Nat.reduceSub, Array.replicate_succ,
     Array.replicate_zero, List.push_toArray, List.append_toArray, List.nil_append, List.cons_append, List.drop_succ_cons, List.drop_zero, Act.put, List.setIfInBounds_toArray, List.set_cons_zero, List.set_cons_succ]
  go_wp2_with (first
    | (refine alloc_blk rfl 112 rfl _ rfl [.nilIface] zeroThrown ?_; intro g1 w1 hga hba hBa hsa; replace hS : HS NoF w w1 [.blk g1 112 [.nilIface]] := hS.pushBlk hBa hba hga; clear hga hba hBa hsa)
    | (refine hs_storeW hS 0 rfl rfl 112 _ _ rfl rfl [.nilIface] rfl (fun v hv => by obtain rfl := List.mem_singleton.1 hv; rfl) 1 sizeThrown rfl rfl _ rfl ?_; clear hS; intro w2 hS; replace hS : HS NoF w w2 [.blk g1 112 [.nilIface]] := hS)
    | fail)
  refine wpS_of_wp ?_
  go_wp2_with fail
  cases c₀
  simp only at hu
  subst hu
  exact ⟨rfl, _, rfl, .tuple #[], results_none rfl _ _ _, rfl, rfl, hS.erase 0⟩
set_option maxHeartbeats 1000000 in
set_option maxRecDepth 100000 in
/-- What is done under trap.Try: it ends, or throws an error around a place. -/
theorem try_gen {F : Nat → Prop} {w0 w : World} {L0 : List Ent} {P : Nat → Addr} (G : Nat) (cap : Array Value) (K1 : List Ent → Prop) (K2 : Nat → List Ent → Prop) (hG : ∀ args w, (callFunc G args).run Tryz.prog w = .ok (.enter G args) w) (hE : Errs w P) (hS : HS F w0 w L0)
    (hf : ∀ gE w1, Below w.heap.size w w1 → HS F w0 w1 (L0 ++ [.blk gE 40 [errV (P 5)]]) → Calls Tryz.prog G cap w1 fun e w2 => (∃ L, e = .returned (.tuple #[]) ∧ K1 L ∧ HS F w0 w2 (L ++ [.blk gE 40 [errV (P 5)]])) ∨ (∃ g L, e = .panicked [{ v := thrownV g, recovered := false }] ∧ K2 g L ∧ HS F w0 w2 (L ++ [.blk gE 40 [errV (P 5)]]))) :
    Calls Tryz.prog 53 #[.func (.func G) #[] cap] w fun e w' => (∃ L, e = .returned .nilIface ∧ K1 L ∧ HS F w0 w' L) ∨ (∃ g L, e = .returned (.iface 92 (.pointer (some ⟨g, 0, none⟩))) ∧ K2 g L ∧ HS F w0 w' L) := by
  have hN := HS.start NoF w
  have cg : w.cell? ⟨2, 0, none⟩ = some (errV (P 5)) := hE.cell 5 (by omega)
  have HF := hid hf
  replace hG := hG cap
  have HS0 := hid hS
  clear hf hE hS
  have hmf : ∀ (fn : Fn) (first cap : Array Value) (w : World), (Instr.makeFunc fn first cap).run Tryz.prog w = .ok (.func fn first cap) w := fun _ _ _ _ => rfl
  go_enter_defers Tryz.func53, Tryz.ntmps53
  go_wp2_with (first
    | (refine alloc_blk rfl 40 rfl _ rfl [.nilIface] zeroErrT ?_; intro gE w1 hga hba hBa hsa; replace hN : HS NoF w w1 [.blk gE 40 [.nilIface]] := hN.pushBlk hBa hba hga; replace cg := (hBa.cell (lt_of_cell cg)).trans cg; clear hga hba hBa hsa)
    | (refine hs_store1 hN 0 rfl rfl 40 _ _ rfl 0 rfl (errV (P 5)) rfl rfl sizeErrT (by simp) _ rfl ?_; clear hN; intro w2 hN; replace hN : HS NoF w w2 [.blk gE 40 [errV (P 5)]] := hN)
    | fail)
  refine (HF.out gE w2 hN.bel ((HS.call (A := []) HS0.out hN (fun _ h => h.elim)).perm List.perm_append_comm)).mono ?_
  rintro e w3 (⟨L, rfl, hK, hS⟩ | ⟨g, L, rfl, hK, hS⟩)
  · replace hS := hS.perm List.perm_append_comm
    clear hN cg
    go_wp2_with (first
      | (refine hs_store1 hS 0 rfl rfl 40 _ _ rfl 0 rfl .nilIface rfl rfl sizeErrT (by simp) _ rfl ?_; clear hS; intro w4 hS; replace hS : HS F w0 w4 (.blk gE 40 [.nilIface] :: L) := hS)
      | fail)
    refine leaves_cons (f := 78) (args := #[.pointer (some ⟨gE, 0, none⟩)]) (by simp) (by simp [go_sem]) ?_
    refine (catch_idle gE _).mono ?_
    rintro e u' w5 ⟨rfl, rfl, hq⟩
    replace hS : HS F w0 w5 (.blk gE 40 [.nilIface] :: L) := HS.call (A := []) hS hq (fun _ h => h.elim)
    have cE : w5.cell? ⟨gE, 0, none⟩ = some .nilIface := hS.cell 0 rfl 0
    refine ⟨.nilIface, ?_, .inl ⟨L, rfl, hK, hS.erase 0⟩⟩
    simp [results, Tryz.results53, go_sem, cE]
  · replace hS := hS.perm List.perm_append_comm
    clear hN cg
    go_wp2_with fail
    refine leaves_cons (f := 78) (args := #[.pointer (some ⟨gE, 0, none⟩)]) (by simp) (by simp [go_sem]) ?_
    refine (catch_panicking gE g _ [] _ (hS.blk 0 rfl)).mono ?_
    rintro e u' w5 ⟨rfl, rfl, hq⟩
    replace hS : HS F w0 w5 (.blk gE 40 [.iface 92 (.pointer (some ⟨g, 0, none⟩))] :: L) := HS.call (A := [.blk gE 40 [errV (P 5)]]) hS hq (fun k h => ⟨_, List.mem_singleton.2 rfl, h⟩)
    have cE : w5.cell? ⟨gE, 0, none⟩ = some (.iface 92 (.pointer (some ⟨g, 0, none⟩))) := hS.cell 0 rfl 0
    refine ⟨.iface 92 (.pointer (some ⟨g, 0, none⟩)), ?_, .inr ⟨g, L, rfl, hK, hS.erase 0⟩⟩
    simp [results, Tryz.results53, go_sem, cE]
end Go.Proofs.YtlikinglgegclaaGreatDoor
/- code.Reader: U32, Raw, however much is left. -/
namespace Go.Cour
open Go.RowKit
/-- What changes less. -/
theorem HS.weak {F G : Nat → Prop} {w0 w : World} {L : List Ent} (h : HS F w0 w L) (hFG : ∀ k, F k → G k) : HS G w0 w L :=
  ⟨h.upd.mono fun k _ hk => hFG k hk, h.mem, fun e he k hk => (h.own e he k hk).imp (hFG k) id⟩
theorem HS.ofNo {G : Nat → Prop} {w0 w : World} {L : List Ent} (h : HS NoF w0 w L) : HS G w0 w L := h.weak fun _ hk => hk.elim
end Go.Cour
namespace Go.Proofs.YtlikinglgegclaaGreatDoor
open Go.RowKit Go.Cour
/-- Four bytes of these, as a number. -/
def u32At (xs : List Int) (a : Nat) : Int := word4 (rd xs a) (rd xs (a + 1)) (rd xs (a + 2)) (rd xs (a + 3))
/-- It fell at a place. -/
def Fell (w w' : World) (F : Nat → Prop) (e : Ending) (p : Int) (a : Addr) : Prop := ∃ g, e = .panicked [{ v := thrownV g, recovered := false }] ∧ HS F w w' [.blk g 94 [.int .i64 p, errV a]]
theorem ru32_any (gr m c a : Nat) (xs : List Int) (A : Option Addr) {w : World} {P : Nat → Addr} (hE : Errs w P) (hb : Blk w gr 90 (rdrC (.slice A m c) a)) (hx : xs.length = m) (hr : Rd w A .u8 xs) (hok : bytesOk xs) (hsep : ∀ ad, A = some ad → xs ≠ [] → ad.block ≠ gr) (ha : a ≤ m) (hc : m ≤ c) (hm : m ≤ 1000000) :
    Calls Tryz.prog 29 #[.pointer (some ⟨gr, 0, none⟩)] w fun e w' => (a + 4 ≤ m ∧ e = .returned (.int .u32 (u32At xs a)) ∧ HS (RF gr) w w' [.blk gr 90 (rdrC (.slice A m c) (a + 4 : Nat))]) ∨ (m < a + 4 ∧ Fell w w' (RF gr) e (a : Int) (P 2)) := by
  by_cases h : a + 4 ≤ m
  · obtain ⟨g, o, rfl⟩ := hr.at (by omega)
    have hne : xs ≠ [] := fun hn => by subst hn; simp at hx; omega
    refine (ru32_calls gr m c a g o (rd xs a) (rd xs (a + 1)) (rd xs (a + 2)) (rd xs (a + 3)) w hb (hsep _ rfl hne) h hc hm (hr.cellAt a (by omega)) (hr.cellAt (a + 1) (by omega)) (hr.cellAt (a + 2) (by omega)) (hr.cellAt (a + 3) (by omega)) (hok _) (hok _) (hok _) (hok _)).mono ?_
    rintro e w' ⟨rfl, hS⟩
    exact .inl ⟨h, rfl, hS⟩
  · refine (ru32_short gr m c a A hE hb (by omega) ha hm).mono ?_
    rintro e w' ⟨g, rfl, hS⟩
    exact .inr ⟨by omega, g, rfl, hS.ofNo⟩
theorem raw_any (gr m c a n : Nat) (xs : List Int) (A : Option Addr) {w : World} {P : Nat → Addr} (hE : Errs w P) (hb : Blk w gr 90 (rdrC (.slice A m c) a)) (hx : xs.length = m) (hr : Rd w A .u8 xs) (hA : A = none → c = 0) (hsep : ∀ ad, A = some ad → xs ≠ [] → ad.block ≠ gr) (ha : a ≤ m) (hc : m ≤ c) (hm : m ≤ 1000000) (hn : n ≤ 1000000) :
    Calls Tryz.prog 30 #[.pointer (some ⟨gr, 0, none⟩), .int .i64 (n : Int)] w fun e w' => (a + n ≤ m ∧ ∃ v, e = .returned v ∧ HS (RF gr) w w' [.os 5 v (ints .u8 ((xs.drop a).take n)), .blk gr 90 (rdrC (.slice A m c) (a + n : Nat))]) ∨ (m < a + n ∧ Fell w w' (RF gr) e (a : Int) (P 2)) := by
  by_cases h : a + n ≤ m
  · exact (raw_calls gr m c a n xs A w hb hx hr hA hsep h hc hm).mono fun e w' he => .inl ⟨h, he⟩
  · refine (raw_short gr m c a n A hE hb (by omega) ha hm hn).mono ?_
    rintro e w' ⟨g, rfl, hS⟩
    exact .inr ⟨by omega, g, rfl, hS.ofNo⟩
end Go.Proofs.YtlikinglgegclaaGreatDoor
/- code.Read: bytes read by a function. -/
namespace Go.Cour
open Go.RowKit
/-- A variable of one cell, made with what it holds. -/
theorem box_one {P : Program} {ops : Array Oper} {rest : List Oper} {o : Oper} {a : Act} {w : World} {Q : Exit → Act → World → Prop} (hgd : o.guard = none) (ty : TypeId) (x : Operand) (ho : o.op = .box ty x) (d : Option Tmp) (hd : o.dst = d) (v : Value)
    (hx : a.eval x = v) (hv : v.cells = #[v])
    (h : ∀ (g : Nat) (w' : World), w.heap.size = g → Blk w' g ty [v] → Below w.heap.size w w' → w'.heap.size = g + 1 → wpList P ops Q rest (a.put d (.pointer (some ⟨g, 0, none⟩))) w') :
    wpList P ops Q (o :: rest) a w := by
  subst hd
  have h1 := h w.heap.size (w.alloc (.cells [v].toArray ty)) rfl (Blk.new _ _ _) ((Below.refl _ _).alloc (Nat.le_refl _) _) (by simp)
  refine wpList_plain hgd fun K hK => ?_
  unfold Oper.wp execOp
  simp [ho, hx, Instr.box, newVar, newRow, hv]
  exact hK _ _ h1
end Go.Cour
namespace Go.Proofs.YtlikinglgegclaaGreatDoor
open Go.RowKit Go.Cour
theorem sizePtrC : (Tryz.prog.info? 66).map (·.size) = some 1 := by kernel_rfl
theorem zeroPtrC : ((Tryz.prog.info? 66).bind (·.zero)).map (·.cells) = some [Value.pointer none].toArray := by kernel_rfl
theorem builtRd (A : Option Addr) (m c : Nat) : Tryz.prog.built 90 [(0, .slice A m c)] = some #[.slice A m c, .int .i64 0] := by kernel_rfl
theorem permCR {α : Type} (a b c d x : α) (L : List α) : ([a, b, c, d] ++ L ++ [x]).Perm (L ++ b :: c :: [a, d, x]) := by
  rw [List.append_assoc]
  refine List.perm_append_comm.trans ?_
  rw [List.append_assoc]
  refine List.Perm.append_left L ?_
  exact ((List.perm_append_singleton x [a, b, c, d]).symm).trans (List.perm_middle (l₁ := [b, c]) (l₂ := [d, x])).symm
theorem nil_neqC (w : World) : (binOp .neq 40 .nilIface .nilIface).run Tryz.prog w = .ok (.bool false) w := by
  obtain ⟨ms, hms⟩ := undErr
  have h : ∀ d : Nat, (Op.equalIn (d + 1) 40 .nilIface .nilIface).run Tryz.prog w = .ok true w := fun d => by simp [Op.equalIn, run_underlying hms]
  simp only [binOp]
  simp [Op.equal, Op.maxDepth, h 9999]
theorem at_neqC (g : Nat) (w : World) : (binOp .neq 40 (.iface 92 (.pointer (some ⟨g, 0, none⟩))) .nilIface).run Tryz.prog w = .ok (.bool true) w := by
  obtain ⟨ms, hms⟩ := undErr
  have h : ∀ d : Nat, (Op.equalIn (d + 1) 40 (.iface 92 (.pointer (some ⟨g, 0, none⟩))) .nilIface).run Tryz.prog w = .ok false w := fun d => by simp [Op.equalIn, run_underlying hms]
  simp only [binOp]
  simp [Op.equal, Op.maxDepth, h 9999]
set_option maxHeartbeats 1000000 in
set_option maxRecDepth 100000 in
theorem cread1_gen {w : World} {R : Ending → World → Prop} (G g1 g4 g3 : Nat) (cap : Array Value) (hG : ∀ args w, (callFunc G args).run Tryz.prog w = .ok (.enter G args) w)
    (c1 : w.cell? ⟨g1, 0, none⟩ = some (.func (.func G) #[] cap)) (c4 : w.cell? ⟨g4, 0, none⟩ = some (.pointer (some ⟨g3, 0, none⟩)))
    (hf : Calls Tryz.prog G (#[.pointer (some ⟨g3, 0, none⟩)] ++ cap) w R) (hR : ∀ e w', R e w' → e = .returned (.tuple #[]) ∨ ∃ ch, e = .panicked ch) :
    Calls Tryz.prog 54 #[.pointer (some ⟨g1, 0, none⟩), .pointer (some ⟨g4, 0, none⟩)] w R := by
  have HF := hid hf
  clear hf
  go_enter Tryz.func54, Tryz.ntmps54
  go_wp2_with fail
  refine HF.out.mono ?_
  intro e w' h
  rcases hR e w' h with rfl | ⟨ch, rfl⟩
  · go_wp2_with fail
    exact bodyPost_void rfl rfl h
  · go_wp2_with fail
    exact ⟨rfl, h⟩
set_option maxHeartbeats 1000000 in
set_option maxRecDepth 100000 in
/-- What the reading function does, as long as Read holds its own. -/
theorem cread_gen {F : Nat → Prop} {w0 w : World} {L0 : List Ent} {P : Nat → Addr} (G : Nat) (cap : Array Value) (xs : List Int) (A : Option Addr) (m c : Nat) (K : Nat → List Ent → Prop) (K2 : Int → Nat → List Ent → Prop)
    (hG : ∀ args w, (callFunc G args).run Tryz.prog w = .ok (.enter G args) w) (hE : ∀ w', HS F w0 w' [] → Errs w' P) (hS : HS F w0 w L0) (hxm : xs.length = m) (hA : A = none → c = 0) (hr : Rd w A .u8 xs) (hm : m ≤ 1000000)
    (hf : ∀ gr Ab cb L' w1, m ≤ cb → Below w.heap.size w w1 → HS F w0 w1 (L0 ++ .blk gr 90 (rdrC (.slice Ab m cb) (0 : Nat)) :: .os 5 (.slice Ab m cb) (ints .u8 xs) :: L') →
      Calls Tryz.prog G (#[.pointer (some ⟨gr, 0, none⟩)] ++ cap) w1 fun e w2 => (∃ a L1, e = .returned (.tuple #[]) ∧ a ≤ m ∧ K a L1 ∧ HS F w0 w2 (L1 ++ .blk gr 90 (rdrC (.slice Ab m cb) (a : Nat)) :: L')) ∨
        (∃ g p k L1, e = .panicked [{ v := thrownV g, recovered := false }] ∧ K2 p k L1 ∧ HS F w0 w2 (L1 ++ .blk g 94 [.int .i64 p, errV (P k)] :: L'))) :
    Calls Tryz.prog 27 #[.slice A m c, .func (.func G) #[] cap] w fun e w' => (∃ L1, e = .returned .nilIface ∧ K m L1 ∧ HS F w0 w' L1) ∨
      (∃ a g L1, a < m ∧ K a L1 ∧ e = .returned (.iface 92 (.pointer (some ⟨g, 0, none⟩))) ∧ HS F w0 w' (.blk g 94 [.int .i64 (a : Int), errV (P 3)] :: L1)) ∨
      (∃ g p k L1, e = .returned (.iface 92 (.pointer (some ⟨g, 0, none⟩))) ∧ K2 p k L1 ∧ HS F w0 w' (.blk g 94 [.int .i64 p, errV (P k)] :: L1)) := by
  have hN := HS.start NoF w
  have HF := hid hf
  have HS0 := hid hS
  have HE := hid hE
  have HXM := hid hxm
  have HAA := hid hA
  have HR := hid hr
  clear hf hE hS hxm hA hr
  have hmf : ∀ (fn : Fn) (first cap : Array Value) (w : World), (Instr.makeFunc fn first cap).run Tryz.prog w = .ok (.func fn first cap) w := fun _ _ _ _ => rfl
  go_enter Tryz.func27, Tryz.ntmps27
  go_wp2_with (first
    | (refine box_one rfl 69 _ rfl _ rfl (.func (.func G) #[] cap) rfl rfl ?_; intro g1 w1 hga hba hBa hsa; replace hN : HS NoF w w1 [.blk g1 69 [.func (.func G) #[] cap]] := hN.pushBlk hBa hba hga; clear hga hba hBa hsa)
    | (go_at_call 52; refine (clone_calls A m c xs _ HXM.out.symm HAA.out (hN.oldRd HR.out (fun _ _ _ h => h)) (by rw [HXM.out]; omega)).mono ?_; rintro e w2 ⟨v2, rfl, ho, hB⟩; obtain ⟨Ab, cb, h2, hcb, _, _⟩ := ho.slice; rw [HXM.out] at h2 hcb; subst h2; replace hN : HS NoF w w2 [.os 5 (.slice Ab m cb) (ints .u8 xs), .blk g1 69 [.func (.func G) #[] cap]] := hN.pushOwn hB ho; clear ho hB)
    | (refine build_to rfl 90 _ rfl #[.slice Ab m cb, .int .i64 0] (by rw [Array.toList_map]; exact builtRd _ _ _) ?_)
    | (refine box_blk rfl 90 _ rfl _ rfl (rdrC (.slice Ab m cb) (0 : Nat)) rfl ?_; intro g3 w3 hga hba hBa hsa; replace hN : HS NoF w w3 [.blk g3 90 (rdrC (.slice Ab m cb) (0 : Nat)), .os 5 (.slice Ab m cb) (ints .u8 xs), .blk g1 69 [.func (.func G) #[] cap]] := hN.pushBlk hBa hba hga; clear hga hba hBa hsa)
    | (refine alloc_blk rfl 66 rfl _ rfl [.pointer none] zeroPtrC ?_; intro g4 w4 hga hba hBa hsa; replace hN : HS NoF w w4 [.blk g4 66 [.pointer none], .blk g3 90 (rdrC (.slice Ab m cb) (0 : Nat)), .os 5 (.slice Ab m cb) (ints .u8 xs), .blk g1 69 [.func (.func G) #[] cap]] := hN.pushBlk hBa hba hga; clear hga hba hBa hsa)
    | (refine hs_store1 hN 0 rfl rfl 66 _ _ rfl 0 rfl (.pointer (some ⟨g3, 0, none⟩)) rfl rfl sizePtrC (by simp) _ rfl ?_; clear hN; intro w5 hN; replace hN : HS NoF w w5 [.blk g4 66 [.pointer (some ⟨g3, 0, none⟩)], .blk g3 90 (rdrC (.slice Ab m cb) (0 : Nat)), .os 5 (.slice Ab m cb) (ints .u8 xs), .blk g1 69 [.func (.func G) #[] cap]] := hN)
    | fail)
  have hS := HS.call (A := []) HS0.out hN (fun _ h => h.elim)
  refine (try_gen (F := F) (w0 := w0) (L0 := _) 54 _ (fun L => ∃ a L1, a ≤ m ∧ K a L1 ∧ L = L1 ++ [.blk g3 90 (rdrC (.slice Ab m cb) (a : Nat)), .blk g4 66 [.pointer (some ⟨g3, 0, none⟩)], .blk g1 69 [.func (.func G) #[] cap]])
    (fun g L => ∃ p k L1, K2 p k L1 ∧ L = L1 ++ [.blk g 94 [.int .i64 p, errV (P k)], .blk g4 66 [.pointer (some ⟨g3, 0, none⟩)], .blk g1 69 [.func (.func G) #[] cap]])
    (fun args w => by simp [go_sem]) (HE.out _ (hS.sub (List.nil_sublist _))) hS ?_).mono ?_
  · intro gE w1' hB hS1
    have c1 := hN.cell 3 rfl 0
    have c4 := hN.cell 0 rfl 0
    refine cread1_gen G g1 g4 g3 cap hG ((hB.cell (lt_of_cell c1)).trans c1) ((hB.cell (lt_of_cell c4)).trans c4) ((HF.out g3 Ab cb [.blk g4 66 [.pointer (some ⟨g3, 0, none⟩)], .blk g1 69 [.func (.func G) #[] cap], .blk gE 40 [errV (P 5)]] w1' hcb (below_then hN.bel hN.size hB) (hS1.perm (permCR _ _ _ _ _ _))).mono ?_) ?_
    · rintro e w2' (⟨a, L1, rfl, ha, hK, h⟩ | ⟨g, p, k, L1, rfl, hK, h⟩)
      · exact .inl ⟨_, rfl, ⟨a, L1, ha, hK, rfl⟩, by simpa using h⟩
      · exact .inr ⟨g, _, rfl, ⟨p, k, L1, hK, rfl⟩, by simpa using h⟩
    · rintro e w2' (⟨_, rfl, _⟩ | ⟨g, _, rfl, _⟩)
      · exact .inl rfl
      · exact .inr ⟨_, rfl⟩
  · clear hS hN
    rintro e w6 (⟨_, rfl, ⟨a, L1, ha, hK, rfl⟩, hS⟩ | ⟨g, _, rfl, ⟨p, k, L1, hK, rfl⟩, hS⟩)
    · replace hS : HS F w0 w6 (.blk g3 90 (rdrC (.slice Ab m cb) (a : Nat)) :: .blk g4 66 [.pointer (some ⟨g3, 0, none⟩)] :: .blk g1 69 [.func (.func G) #[] cap] :: L1) := hS.perm List.perm_append_comm
      have hnn := nil_neqC
      have c4 : w6.cell? ⟨g4, 0, none⟩ = some (.pointer (some ⟨g3, 0, none⟩)) := hS.cell 1 rfl 0
      have c3 : w6.cell? ⟨g3, 1, none⟩ = some (.int .i64 (a : Int)) := hS.cell 0 rfl 1
      by_cases hlt : a < m
      · go_wp2_with fail
        clear c4 c3
--@R6
        try go_wp2_with fail
        refine wp_region_S (F := F) (w0 := w0) (L0 := (.blk g3 90 (rdrC (.slice Ab m cb) (a : Nat)) :: .blk g4 66 [.pointer (some ⟨g3, 0, none⟩)] :: .blk g1 69 [.func (.func G) #[] cap] :: L1)) [6] []
          (fun iK u E => match iK with
            | 6 => ∃ g, u = .pointer (some ⟨g, 0, none⟩) ∧ E = [.blk g 94 [.int .i64 (a : Int), errV (P 3)]]
            | _ => False)
          ([]) (by kernel_rfl) (by kernel_rfl) hS ?_
        show wpS _ _ _ _ _ _ _ _ _ _ [0, 1, 2, 3, 4, 5, 6, 7, 8] _
        apply wpS_read (i := 0) rfl rfl ⟨_, hS⟩ rfl
        · intro w' hT'
          simp only [getElem_toArray, getElem_cons_zero, getElem_cons_succ]
          have c4 : w'.cell? ⟨g4, 0, none⟩ = some (.pointer (some ⟨g3, 0, none⟩)) := hT'.cell 1 rfl 0
          have c3 : w'.cell? ⟨g3, 1, none⟩ = some (.int .i64 (a : Int)) := hT'.cell 0 rfl 1
          have cg : w'.cell? ⟨1, 0, none⟩ = some (errV (P 3)) := (HE.out _ (hT'.sub (List.nil_sublist _))).cell 3 (by omega)
          go_wp2_with (first
            | (refine build_to rfl 94 _ rfl #[.int .i64 (a : Int), errV (P 3)] (by rw [Array.toList_map]; exact builtAt _ _) ?_)
            | fail)
          first | exact ⟨rfl, rfl, rfl⟩ | rfl
        apply wpS_read (i := 1) rfl rfl ⟨_, hS⟩ rfl
        · intro w' hT'
          simp only [getElem_toArray, getElem_cons_zero, getElem_cons_succ]
          go_wp2_with fail
          first | exact ⟨rfl, rfl, rfl⟩ | rfl
        apply wpS_read (i := 2) rfl rfl ⟨_, hS⟩ rfl
        · intro w' hT'
          simp only [getElem_toArray, getElem_cons_zero, getElem_cons_succ]
          go_wp2_with fail
          first | exact ⟨rfl, rfl, rfl⟩ | rfl
        apply wpS_read (i := 3) rfl rfl ⟨_, hS⟩ rfl
        · intro w' hT'
          simp only [getElem_toArray, getElem_cons_zero, getElem_cons_succ]
          have c4 : w'.cell? ⟨g4, 0, none⟩ = some (.pointer (some ⟨g3, 0, none⟩)) := hT'.cell 1 rfl 0
          have c3 : w'.cell? ⟨g3, 1, none⟩ = some (.int .i64 (a : Int)) := hT'.cell 0 rfl 1
          have cg : w'.cell? ⟨1, 0, none⟩ = some (errV (P 3)) := (HE.out _ (hT'.sub (List.nil_sublist _))).cell 3 (by omega)
          go_wp2_with (first
            | (refine build_to rfl 94 _ rfl #[.int .i64 (a : Int), errV (P 3)] (by rw [Array.toList_map]; exact builtAt _ _) ?_)
            | fail)
          first | exact ⟨rfl, rfl, rfl⟩ | rfl
        apply wpS_read (i := 4) rfl rfl ⟨_, hS⟩ rfl
        · intro w' hT'
          simp only [getElem_toArray, getElem_cons_zero, getElem_cons_succ]
          have c4 : w'.cell? ⟨g4, 0, none⟩ = some (.pointer (some ⟨g3, 0, none⟩)) := hT'.cell 1 rfl 0
          have c3 : w'.cell? ⟨g3, 1, none⟩ = some (.int .i64 (a : Int)) := hT'.cell 0 rfl 1
          have cg : w'.cell? ⟨1, 0, none⟩ = some (errV (P 3)) := (HE.out _ (hT'.sub (List.nil_sublist _))).cell 3 (by omega)
          go_wp2_with (first
            | (refine build_to rfl 94 _ rfl #[.int .i64 (a : Int), errV (P 3)] (by rw [Array.toList_map]; exact builtAt _ _) ?_)
            | fail)
          first | exact ⟨rfl, rfl, rfl⟩ | rfl
        apply wpS_read (i := 5) rfl rfl ⟨_, hS⟩ rfl
        · intro w' hT'
          simp only [getElem_toArray, getElem_cons_zero, getElem_cons_succ]
          go_wp2_with (first
            | (refine build_to rfl 94 _ rfl #[.int .i64 (a : Int), errV (P 3)] (by rw [Array.toList_map]; exact builtAt _ _) ?_)
            | fail)
          first | exact ⟨rfl, rfl, rfl⟩ | rfl
        refine wpS_soft (i := 6) rfl rfl rfl (Nat.le_of_ble_eq_true rfl) ?_ ?_
        · intro w' hT
          simp only [getElem_toArray, getElem_cons_zero, getElem_cons_succ]
          go_wp2_with (first
            | (refine box_blk rfl 94 _ rfl _ rfl [.int .i64 (a : Int), errV (P 3)] rfl ?_; intro g7 w7 hga hba hBa hsa)
            | fail)
          exact SoftP.mk' (.pointer (some ⟨g7, 0, none⟩)) ([.blk g7 94 [.int .i64 (a : Int), errV (P 3)]]) rfl (⟨g7, rfl, rfl⟩) (hT.pushBlk hBa hba hga) (hBa) (fun e he k hk => by obtain rfl := List.mem_singleton.1 he; have : k = g7 := hk; omega)
        intro u6 E6 hK6
        obtain ⟨g7, rfl, rfl⟩ := hK6
        simp only [Act.put, List.setIfInBounds_toArray, List.set_cons_zero, List.set_cons_succ]
        apply wpS_read (i := 7) rfl rfl ⟨_, hS⟩ rfl
        · intro w' hT'
          simp only [getElem_toArray, getElem_cons_zero, getElem_cons_succ]
          go_wp2_with fail
          first | exact ⟨rfl, rfl, rfl⟩ | rfl
        apply wpS_read (i := 8) rfl rfl ⟨_, hS⟩ rfl
        · intro w' hT'
          simp only [getElem_toArray, getElem_cons_zero, getElem_cons_succ]
          go_wp2_with fail
          first | exact ⟨rfl, rfl, rfl⟩ | rfl
        refine wpS_end ?_
        intro wz hT
        try dsimp only
        clear hS
        have hS : HS F w0 wz (.blk g7 94 [.int .i64 (a : Int), errV (P 3)] :: (.blk g3 90 (rdrC (.slice Ab m cb) (a : Nat)) :: .blk g4 66 [.pointer (some ⟨g3, 0, none⟩)] :: .blk g1 69 [.func (.func G) #[] cap] :: L1)) := hT
        clear hT
        go_wp2_with fail
--@E6
        refine bodyPost_ret (results_tmp rfl _ _ _) rfl ?_
        exact .inr (.inl ⟨a, g7, L1, hlt, hK, rfl, hS.sub (.cons_cons _ (.cons _ (.cons _ (.cons _ (List.Sublist.refl _)))))⟩)
      · obtain rfl : a = m := by omega
        go_wp2_with fail
        go_ret
        exact .inl ⟨L1, rfl, hK, hS.sub (.cons _ (.cons _ (.cons _ (List.Sublist.refl _))))⟩
    · replace hS : HS F w0 w6 (.blk g 94 [.int .i64 p, errV (P k)] :: .blk g4 66 [.pointer (some ⟨g3, 0, none⟩)] :: .blk g1 69 [.func (.func G) #[] cap] :: L1) := hS.perm List.perm_append_comm
      have hnn := at_neqC g
      go_wp2_with fail
      go_ret
      exact .inr (.inr ⟨g, p, k, L1, rfl, hK, hS.sub (.cons_cons _ (.cons _ (.cons _ (List.Sublist.refl _))))⟩)
end Go.Proofs.YtlikinglgegclaaGreatDoor
