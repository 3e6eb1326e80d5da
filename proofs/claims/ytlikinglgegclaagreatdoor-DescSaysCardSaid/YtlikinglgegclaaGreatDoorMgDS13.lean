import Derived.LaidEql
import Derived.Test.YtlikinglgegclaaGreatDoorProg
import Derived.Great.BuildSlice
import Derived.Test.YtlikinglgegclaaGreatDoorMgDS0
import Derived.Test.YtlikinglgegclaaGreatDoorMgDS1
import Derived.Test.YtlikinglgegclaaGreatDoorMgDS2
import Derived.Test.YtlikinglgegclaaGreatDoorMgDS3
import Derived.Test.YtlikinglgegclaaGreatDoorMgDS4
import Derived.Test.YtlikinglgegclaaGreatDoorMgDS5
import Derived.Test.YtlikinglgegclaaGreatDoorMgDS6
import Derived.Test.YtlikinglgegclaaGreatDoorMgDS7
import Derived.Test.YtlikinglgegclaaGreatDoorMgDS8
import Derived.Test.YtlikinglgegclaaGreatDoorMgDS9
import Derived.Test.YtlikinglgegclaaGreatDoorMgDS10
import Derived.Test.YtlikinglgegclaaGreatDoorMgDS11
import Derived.Test.YtlikinglgegclaaGreatDoorMgDS12
set_option linter.unusedSimpArgs false
set_option linter.unusedVariables false
open List (getElem_toArray getElem_cons_zero getElem_cons_succ)
/- Errors as pointers of their own: held against each other. -/
namespace Go.Proofs.YtlikinglgegclaaGreatDoor
open Go.RowKit Go.Cour
/-- An error of api's, by where it points. -/
def errV (a : Addr) : Value := .iface 153 (.pointer (some a))
/-- The variables, in the order in which they are numbered from 101 on. -/
def globs : List Nat := [4, 0, 3, 1, 5, 2, 6, 7, 8, 9, 10, 11, 12, 13, 14, 15, 16, 17, 18]
/-- Each variable holds an error of its own. -/
structure Errs (w : World) (P : Nat → Addr) : Prop where
  cell : ∀ i, i < 19 → w.cell? ⟨globs.getD i 0, 0, none⟩ = some (errV (P i))
  inj : ∀ i j, i < 19 → j < 19 → P i = P j → i = j
  froz : ∀ i, i < 19 → ∃ c t, w.heap[(P i).block]? = some (.cells c t (0, 0))
theorem Errs.below {w w' : World} {P : Nat → Addr} (h : Errs w P) (hb : Below w.heap.size w w') : Errs w' P := by
  refine ⟨fun i hi => ?_, h.inj, fun i hi => ?_⟩
  · have hc := h.cell i hi
    exact (hb.cell (lt_of_cell hc)).trans hc
  · obtain ⟨c, t, hf⟩ := h.froz i hi
    exact ⟨c, t, (hb.block _ (Array.getElem?_eq_some_iff.1 hf).1).trans hf⟩
theorem Errs.drewN {w : World} {P : Nat → Addr} (h : Errs w P) (n : Nat) : Errs (w.drewN n) P := ⟨h.cell, h.inj, h.froz⟩
/-- The two that opening tells. -/
def Errs2 (w : World) (P : Nat → Addr) : Prop := w.cell? ⟨3, 0, none⟩ = some (errV (P 2)) ∧ w.cell? ⟨8, 0, none⟩ = some (errV (P 8))
theorem Errs.two {w : World} {P : Nat → Addr} (h : Errs w P) : Errs2 w P := ⟨h.cell 2 (by omega), h.cell 8 (by omega)⟩
theorem Errs2.below {w w' : World} {P : Nat → Addr} (h : Errs2 w P) (hb : Below w.heap.size w w') : Errs2 w' P :=
  ⟨(hb.cell (lt_of_cell h.1)).trans h.1, (hb.cell (lt_of_cell h.2)).trans h.2⟩
theorem undErr : ∃ ms, Tryz.prog.underlying 40 = some (.interface ms) := ⟨_, Tryz.underlying40⟩
theorem undES : Tryz.prog.underlying 153 = some (.pointer 170) := by kernel_rfl
theorem compES : (Tryz.prog.info? 153).map (·.comparable) = some true := by kernel_rfl
theorem sizeES0 : (Tryz.prog.info? 170).map (·.size) = some 1 := by kernel_rfl
/-- Two of them, held against each other. -/
theorem err_eql {w : World} {P : Nat → Addr} (h : Errs w P) (i j : Nat) (hi : i < 19) (hj : j < 19) :
    (binOp .eql 40 (errV (P i)) (errV (P j))).run Tryz.prog w = .ok (.bool (decide (i = j))) w := by
  obtain ⟨ms, hms⟩ := undErr
  obtain ⟨ti, hti, hcmp⟩ := Option.map_eq_some_iff.1 compES
  obtain ⟨tj, htj, htjs⟩ := Option.map_eq_some_iff.1 sizeES0
  by_cases hij : i = j
  · subst hij
    rw [decide_eq_true rfl]
    exact run_eql_iface_ptr_same w (P i) hms undES hti hcmp htj
  · rw [decide_eq_false hij]
    obtain ⟨ci, t1, hci⟩ := h.froz i hi
    obtain ⟨cj, t2, hcj⟩ := h.froz j hj
    exact run_eql_iface_ptr_other w hms undES hti hcmp htj (by rw [htjs]; decide) (fun he => hij (h.inj i j hi hj he)) hci hcj
theorem err_nil_right (a : Addr) (w : World) : (binOp .eql 40 (errV a) .nilIface).run Tryz.prog w = .ok (.bool false) w := by
  obtain ⟨ms, hms⟩ := undErr
  have h : ∀ d : Nat, (Op.equalIn (d + 1) 40 (errV a) .nilIface).run Tryz.prog w = .ok false w := fun d => by simp [Op.equalIn, run_underlying hms, errV]
  simp only [binOp]
  simp [Op.equal, Op.maxDepth, h 9999]
theorem nil_nil (w : World) : (binOp .eql 40 .nilIface .nilIface).run Tryz.prog w = .ok (.bool true) w := by
  obtain ⟨ms, hms⟩ := undErr
  have h : ∀ d : Nat, (Op.equalIn (d + 1) 40 .nilIface .nilIface).run Tryz.prog w = .ok true w := fun d => by simp [Op.equalIn, run_underlying hms]
  simp only [binOp]
  simp [Op.equal, Op.maxDepth, h 9999]
theorem eqGuard_err (op : BinOp) (t : TypeId) (x y : Operand) (a : Addr) (v : Value) : eqGuard op t x y (errV a) v = pure () := by cases op <;> rfl
/-- api's errors, all of them below B. -/
structure ErrsAt (w : World) (P : Nat → Addr) (B : Nat) : Prop where
  errs : Errs w P
  glob : ∀ i, i < 19 → globs.getD i 0 < B
  at_ : ∀ i, i < 19 → (P i).block < B
theorem ErrsAt.of {w : World} {P : Nat → Addr} (h : Errs w P) : ErrsAt w P w.heap.size :=
  ⟨h, fun i hi => lt_of_cell (h.cell i hi), fun i hi => by obtain ⟨c, t, hc⟩ := h.froz i hi; exact (Array.getElem?_eq_some_iff.1 hc).1⟩
theorem ErrsAt.below {w w' : World} {P : Nat → Addr} {B : Nat} (h : ErrsAt w P B) (hb : Below B w w') : ErrsAt w' P B :=
  ⟨⟨fun i hi => (hb.cell (p := ⟨globs.getD i 0, 0, none⟩) (h.glob i hi)).trans (h.errs.cell i hi), h.errs.inj, fun i hi => by
    obtain ⟨c, t, hc⟩ := h.errs.froz i hi
    exact ⟨c, t, (hb.block _ (h.at_ i hi)).trans hc⟩⟩, h.glob, h.at_⟩
end Go.Proofs.YtlikinglgegclaaGreatDoor
/- Errors held against each other; faults as plain data. -/
namespace Go.Proofs.YtlikinglgegclaaGreatDoor
open Go.RowKit Go.Cour
set_option maxHeartbeats 400000 in
theorem alike_calls {w : World} {P : Nat → Addr} (h : Errs w P) (i j : Nat) (hi : i < 19) (hj : j < 19) :
    Calls Tryz.prog 80 #[errV (P i), errV (P j)] w fun e w' => e = .returned (.bool (decide (i = j))) ∧ w' = w := by
  have h1 := err_eql h i j hi hj
  have h2 := err_nil_right (P i) w
  have h3 := err_nil_right (P j) w
  have h4 := fun op t x y v => eqGuard_err op t x y (P i) v
  have h5 := fun op t x y v => eqGuard_err op t x y (P j) v
  generalize errV (P i) = x at *
  generalize errV (P j) = y at *
  go_enter Tryz.func80, Tryz.ntmps80
  go_wp2_with fail
  go_ret
  exact ⟨rfl, rfl⟩
/-- A fault's cells. -/
def faultC (c : Int) (p : Bool) (n : Int) : List Value := [.int .i64 c, .bool p, .int .i64 n]
theorem infoF : (Tryz.prog.info? 44).map (·.size) = some 3 := by kernel_rfl
theorem zeroF : ((Tryz.prog.info? 44).bind (·.zero)).map (·.cells) = some (faultC 0 false 0).toArray := by kernel_rfl
theorem undF : ∃ fs, Tryz.prog.underlying 44 = some (.struct fs) := ⟨_, Tryz.underlying44⟩
theorem oneF (c : Int) (p : Bool) (n : Int) : (faultC c p n).toArray.all (·.oneCell') = true := by simp [faultC, Value.oneCell']
theorem results_str1 {P : Program} {fn : Func} {p : Tmp} {ty : TypeId} (h : fn.results = #[.cell p ty]) (tmps : Array Value) (w : World) (g : Nat) (t : TypeId) (cs : List Value) (fs : _)
    (hp : tmps.getD p undef = .pointer (some ⟨g, 0, none⟩)) (hg : Blk w g t cs)
    (hu : P.underlying ty = some (.struct fs)) (hi : (P.info? ty).map (·.size) = some cs.length) :
    (results fn tmps).run P w = .ok (.agg cs.toArray) w :=
  results_cell_row h tmps w g t cs.toArray (0, 0) _ hp hg hu rfl (by rw [hi]; simp)
set_option maxHeartbeats 400000 in
theorem none_calls (w : World) : Calls Tryz.prog 61 #[] w fun e w' => e = .returned (.agg (faultC 0 false 0).toArray) ∧ Below w.heap.size w w' := by
  obtain ⟨fs, hfs⟩ := undF
  go_enter Tryz.func61, Tryz.ntmps61
  go_wp2_with (first
    | (refine alloc_blk rfl 44 rfl _ rfl (faultC 0 false 0) zeroF ?_; intro g1 w1 hg1 hb1 hB1 hs1)
    | (refine store_blk rfl 44 _ _ rfl g1 (faultC 0 false 0) rfl rfl 44 _ hb1 3 infoF rfl rfl (oneF _ _ _) ?_)
    | fail)
  refine bodyPost_ret (results_str1 rfl _ _ g1 44 _ fs rfl (hb1.setRow (faultC 0 false 0)) hfs infoF) rfl ?_
  exact ⟨rfl, below_setRow hB1 (by omega) _⟩
set_option maxHeartbeats 400000 in
theorem bare_calls (c : Int) (w : World) : Calls Tryz.prog 35 #[.int .i64 c] w fun e w' => e = .returned (.agg (faultC c false 0).toArray) ∧ Below w.heap.size w w' := by
  obtain ⟨fs, hfs⟩ := undF
  go_enter Tryz.func35, Tryz.ntmps35
  go_wp2_with (first
    | (refine alloc_blk rfl 44 rfl _ rfl (faultC 0 false 0) zeroF ?_; intro g1 w1 hg1 hb1 hB1 hs1)
    | (refine store_blk rfl 44 _ _ rfl g1 (faultC c false 0) rfl rfl 44 _ hb1 3 infoF rfl rfl (oneF _ _ _) ?_)
    | fail)
  refine bodyPost_ret (results_str1 rfl _ _ g1 44 _ fs rfl (hb1.setRow (faultC c false 0)) hfs infoF) rfl ?_
  exact ⟨rfl, below_setRow hB1 (by omega) _⟩
end Go.Proofs.YtlikinglgegclaaGreatDoor
/- The numbers of api's errors. -/
namespace Go.Proofs.YtlikinglgegclaaGreatDoor
open Go.RowKit Go.Cour
/-- All of them, in order. -/
def errL (P : Nat → Addr) : List Value := [errV (P 0), errV (P 1), errV (P 2), errV (P 3), errV (P 4), errV (P 5), errV (P 6), errV (P 7), errV (P 8), errV (P 9), errV (P 10), errV (P 11), errV (P 12), errV (P 13), errV (P 14), errV (P 15), errV (P 16), errV (P 17), errV (P 18)]
theorem errL_get (P : Nat → Addr) (i : Nat) (h : i < 19) : (errL P)[i]? = some (errV (P i)) := by
  have h1 : i = 0 ∨ i = 1 ∨ i = 2 ∨ i = 3 ∨ i = 4 ∨ i = 5 ∨ i = 6 ∨ i = 7 ∨ i = 8 ∨ i = 9 ∨ i = 10 ∨ i = 11 ∨ i = 12 ∨ i = 13 ∨ i = 14 ∨ i = 15 ∨ i = 16 ∨ i = 17 ∨ i = 18 := by omega
  rcases h1 with rfl | rfl | rfl | rfl | rfl | rfl | rfl | rfl | rfl | rfl | rfl | rfl | rfl | rfl | rfl | rfl | rfl | rfl | rfl <;> rfl
theorem errL_cells (P : Nat → Addr) : ∀ u ∈ errL P, u.cells = #[u] := by
  intro u hu
  obtain ⟨i, hi⟩ := List.getElem?_of_mem hu
  have hl : i < 19 := by
    have := (List.getElem?_eq_some_iff.1 hi).1
    simpa [errL] using this
  rw [errL_get P i hl] at hi
  injection hi with hi
  subst hi
  rfl
theorem undLErr : Tryz.prog.underlying 114 = some (.slice 40) := by kernel_rfl
theorem sizeErr : (Tryz.prog.info? 40).map (·.size) = some 1 := by kernel_rfl
theorem zeroErr : ((Tryz.prog.info? 40).bind (·.zero)).isSome = true := by kernel_rfl
/-- A slice literal of values of one cell each. -/
theorem literal_vals {P : Program} {ops : Array Oper} {rest : List Oper} {o : Oper} {a : Act} {w : World} {Q : Exit → Act → World → Prop} (hw : Region.wanted o (yielded ops a.tmps) = true) (t e : TypeId) (len : Nat) (parts : Array (Nat × Operand)) (ho : o.op = .buildSlice t len parts)
    (us : List Value) (hparts : (parts.map fun (i, x) => (i, a.eval x)).toList = (us.zipIdx 0).map fun x => (x.2, x.1)) (h1 : ∀ u ∈ us, u.cells = #[u])
    (ht : P.underlying t = some (.slice e)) (hsz : (P.info? e).map (·.size) = some 1) (hz : ((P.info? e).bind (·.zero)).isSome = true) (hlen : len = us.length) (hpos : 0 < len) (hsmall : len ≤ 2 ^ 24)
    (h : ∀ (g : Nat) (w' : World), w.heap.size = g → Blk w' g e us → Below w.heap.size w w' → w'.heap.size = g + 1 → wpList P ops Q rest (a.put o.dst (.slice (some ⟨g, 0, none⟩) len len)) w') :
    wpList P ops Q (o :: rest) a w := by
  have h2 := h w.heap.size _ rfl (Blk.new w e us) ((Below.refl _ _).alloc (Nat.le_refl _) _) (by simp)
  cases hie : P.info? e with
  | none => simp [hie] at hsz
  | some ie =>
    simp only [hie, Option.map_some, Option.some.injEq, Option.bind_some] at hsz hz
    obtain ⟨z, hzz⟩ := Option.isSome_iff_exists.1 hz
    refine wpList_step fun K hK => ?_
    rw [if_pos hw]
    refine wp_buildSlice t e len _ ho us.toArray ie z ht hie hzz (by rw [hsz]; omega) (by rw [hsz]; omega) ?_ (hK _ _ h2)
    rw [hparts, hsz]
    exact Great.fill_flat us _ h1 (by simp [hlen])
set_option maxHeartbeats 1000000 in
set_option maxRecDepth 100000 in
theorem sentinels_calls {w : World} {P : Nat → Addr} (h : Errs w P) :
    Calls Tryz.prog 79 #[] w fun e w' => ∃ g, e = .returned (.slice (some ⟨g, 0, none⟩) 19 19) ∧ w.heap.size ≤ g ∧ Blk w' g 40 (errL P) ∧ Below w.heap.size w w' := by
  have e0 := h.cell 0 (by omega)
  have e1 := h.cell 1 (by omega)
  have e2 := h.cell 2 (by omega)
  have e3 := h.cell 3 (by omega)
  have e4 := h.cell 4 (by omega)
  have e5 := h.cell 5 (by omega)
  have e6 := h.cell 6 (by omega)
  have e7 := h.cell 7 (by omega)
  have e8 := h.cell 8 (by omega)
  have e9 := h.cell 9 (by omega)
  have e10 := h.cell 10 (by omega)
  have e11 := h.cell 11 (by omega)
  have e12 := h.cell 12 (by omega)
  have e13 := h.cell 13 (by omega)
  have e14 := h.cell 14 (by omega)
  have e15 := h.cell 15 (by omega)
  have e16 := h.cell 16 (by omega)
  have e17 := h.cell 17 (by omega)
  have e18 := h.cell 18 (by omega)
  simp only [globs, List.getD_cons_zero, List.getD_cons_succ] at e0 e1 e2 e3 e4 e5 e6 e7 e8 e9 e10 e11 e12 e13 e14 e15 e16 e17 e18
  go_enter Tryz.func79, Tryz.ntmps79
  go_wp2_with (first
    | (refine literal_vals rfl 114 40 19 _ rfl (errL P) (by kernel_rfl) (errL_cells P) undLErr sizeErr zeroErr rfl (by omega) (by omega) ?_; intro g w1 hg hb hB hs)
    | fail)
  go_ret
  exact ⟨g, rfl, by omega, hb, hB⟩
set_option maxHeartbeats 1000000 in
set_option maxRecDepth 100000 in
theorem sentinel_calls {w : World} {P : Nat → Addr} (h : Errs w P) (k : Nat) (hk : k < 19) :
    Calls Tryz.prog 62 #[errV (P k)] w fun e w' => e = .returned (.int .i64 (101 + (k : Int))) ∧ Below w.heap.size w w' := by
  go_enter Tryz.func62, Tryz.ntmps62
  go_wp2_with (first
    | (go_at_call 79; refine (sentinels_calls h).mono ?_; rintro e w1 ⟨g, rfl, hg, hb, hB⟩)
    | fail)
  go_loopg [4] (k + 1) (fun kq v4 wr => ∃ i : Nat, i ≤ k ∧ v4 = .int .i64 i ∧ Hd (kq + i = k + 1) ∧ wr = w1)
  case atStart => exact ⟨0, by omega, rfl, hid (by omega), rfl⟩
  case round =>
    obtain ⟨i, hi, rfl, hq, rfl⟩ := hrel
    have hi19 : (i : Int) < 19 := by omega
    have hc : wr.cell? ⟨g, i, none⟩ = some (errV (P i)) := by rw [hb.cell, errL_get P i (by omega)]
    by_cases hik : k = i
    · subst hik
      have hd : decide (k = k) = true := decide_eq_true rfl
      have hd := hid hd
      go_wp2_with (first
        | (go_at_call 80; refine (alike_calls (h.below hB) k k hk hk).mono ?_; rintro e w2 ⟨he, hw2⟩; rw [hd.out] at he; subst he; subst w2)
        | fail)
      go_ret
      exact ⟨rfl, hB⟩
    · have hd := hid (decide_eq_false hik)
      have hik2 := hid hik
      clear hik
      go_wp2_with (first
        | (go_at_call 80; refine (alike_calls (h.below hB) k i hk (by omega)).mono ?_; rintro e w2 ⟨he, hw2⟩; rw [hd.out] at he; subst he; subst w2)
        | fail)
      go_roundg (gk - 1)
      case measure => have := hq.out; omega
      case rel => exact ⟨i + 1, by have := hik2.out; omega, by go_num, hid (by have := hq.out; omega), rfl⟩
end Go.Proofs.YtlikinglgegclaaGreatDoor
/- Errors as faults. -/
namespace Go.Proofs.YtlikinglgegclaaGreatDoor
open Go.RowKit Go.Cour
theorem assert_err (a : Addr) (w : World) : (Instr.typeAssert (errV a) 40 92 true).run Tryz.prog w = .ok (.tuple #[.pointer none, .bool false]) w := by kernel_rfl
set_option maxHeartbeats 400000 in
set_option maxRecDepth 100000 in
theorem fault_nil_calls (w : World) : Calls Tryz.prog 37 #[.nilIface] w fun e w' => e = .returned (.agg (faultC 0 false 0).toArray) ∧ Below w.heap.size w w' := by
  obtain ⟨fs, hfs⟩ := undF
  have h2 := nil_nil
  go_enter Tryz.func37, Tryz.ntmps37
  go_wp2_with (first
    | (refine alloc_blk rfl 44 rfl _ rfl (faultC 0 false 0) zeroF ?_; intro g1 w1 hg1 hb1 hB1 hs1; clear hs1)
    | (go_at_call 61; refine (none_calls _).mono ?_; rintro e w2 ⟨rfl, hB2⟩; have hb2 := hb1.belowAll hB2)
    | (refine store_blk rfl 44 _ _ rfl g1 (faultC 0 false 0) rfl rfl 44 _ hb2 3 infoF rfl rfl (oneF _ _ _) ?_)
    | fail)
  refine bodyPost_ret (results_str1 rfl _ _ g1 44 _ fs rfl (hb2.setRow (faultC 0 false 0)) hfs infoF) rfl ?_
  exact ⟨rfl, below_setRow (below_then hB1 hB1.size hB2) (by omega) _⟩
set_option maxHeartbeats 400000 in
set_option maxRecDepth 100000 in
theorem fault_calls {w : World} {P : Nat → Addr} (h : Errs w P) (k : Nat) (hk : k < 19) : Calls Tryz.prog 37 #[errV (P k)] w fun e w' => e = .returned (.agg (faultC (101 + (k : Int)) false 0).toArray) ∧ Below w.heap.size w w' := by
  obtain ⟨fs, hfs⟩ := undF
  have h2 := err_nil_right (P k)
  have h4 := fun op t x y v => eqGuard_err op t x y (P k) v
  have h5 := assert_err (P k)
  obtain ⟨c, hc⟩ : ∃ c : Int, Hd (101 + (k : Int) = c) := ⟨_, ⟨rfl⟩⟩
  rw [hc.out]
  go_enter Tryz.func37, Tryz.ntmps37
  go_wp2_with (first
    | (refine alloc_blk rfl 44 rfl _ rfl (faultC 0 false 0) zeroF ?_; intro g1 w1 hg1 hb1 hB1 hs1; clear hs1)
    | (go_at_call 62; refine (sentinel_calls (h.below hB1) k hk).mono ?_; rintro e w2 ⟨rfl, hB2⟩; rw [hc.out]; have hb2 := hb1.belowAll hB2)
    | (go_at_call 35; refine (bare_calls _ _).mono ?_; rintro e w3 ⟨rfl, hB3⟩; have hb3 := hb2.belowAll hB3)
    | (refine store_blk rfl 44 _ _ rfl g1 (faultC c false 0) rfl rfl 44 _ hb3 3 infoF rfl rfl (oneF _ _ _) ?_)
    | fail)
  refine bodyPost_ret (results_str1 rfl _ _ g1 44 _ fs rfl (hb3.setRow (faultC c false 0)) hfs infoF) rfl ?_
  exact ⟨rfl, below_setRow (below_then (below_then hB1 hB1.size hB2) (by have := hB1.size; have := hB2.size; omega) hB3) (by omega) _⟩
end Go.Proofs.YtlikinglgegclaaGreatDoor
/- Same: an error, held against a fault. -/
namespace Go.Proofs.YtlikinglgegclaaGreatDoor
open Go.RowKit Go.Cour
end Go.Proofs.YtlikinglgegclaaGreatDoor
/- Errors around a place as faults; any error held against a fault. -/
namespace Go.Proofs.YtlikinglgegclaaGreatDoor
open Go.RowKit Go.Cour
/-- An error, or none, as a fault. -/
def Tells (w : World) (P : Nat → Addr) (v : Value) (c : Int) (p : Bool) (n : Int) : Prop :=
  (v = .nilIface ∧ c = 0 ∧ p = false ∧ n = 0) ∨ (∃ k : Nat, k < 19 ∧ v = errV (P k) ∧ c = 101 + (k : Int) ∧ p = false ∧ n = 0) ∨
  (∃ (k g : Nat), k < 19 ∧ v = .iface 92 (.pointer (some ⟨g, 0, none⟩)) ∧ Blk w g 94 [.int .i64 n, errV (P k)] ∧ c = 101 + (k : Int) ∧ p = true)
theorem Tells.nil {w : World} {P : Nat → Addr} : Tells w P .nilIface 0 false 0 := .inl ⟨rfl, rfl, rfl, rfl⟩
theorem Tells.err {w : World} {P : Nat → Addr} (k : Nat) (hk : k < 19) : Tells w P (errV (P k)) (101 + (k : Int)) false 0 := .inr (.inl ⟨k, hk, rfl, rfl, rfl, rfl⟩)
theorem Tells.at_ {w : World} {P : Nat → Addr} {n : Int} {k g : Nat} (hk : k < 19) (hb : Blk w g 94 [.int .i64 n, errV (P k)]) : Tells w P (.iface 92 (.pointer (some ⟨g, 0, none⟩))) (101 + (k : Int)) true n := .inr (.inr ⟨k, g, hk, rfl, hb, rfl, rfl⟩)
theorem Tells.below {w w' : World} {P : Nat → Addr} {v : Value} {c n : Int} {p : Bool} (h : Tells w P v c p n) (hb : Below w.heap.size w w') : Tells w' P v c p n := by
  rcases h with h | h | ⟨k, g, hk, h1, h2, h3⟩
  · exact .inl h
  · exact .inr (.inl h)
  · exact .inr (.inr ⟨k, g, hk, h1, h2.belowAll hb, h3⟩)
set_option maxHeartbeats 1000000 in
theorem samef_calls (c n d m : Int) (p q : Bool) (w : World) : Calls Tryz.prog 36 #[.agg (faultC c p n).toArray, .agg (faultC d q m).toArray] w fun e w' => e = .returned (.bool (c == d && p == q && n == m)) ∧ Below w.heap.size w w' := by
  cases hcd : (c == d) <;> cases p <;> cases q <;> cases hnm : (n == m)
  all_goals
    obtain ⟨p, hp⟩ : ∃ p : Bool, Hd (p = p) := ⟨true, hid rfl⟩
    have hS := HS.start NoF w
    go_enter Tryz.func36, Tryz.ntmps36
    go_wp2_with (first
      | (have _ := mk0; refine box_blk rfl 44 _ rfl _ rfl (faultC d _ m) rfl ?_; intro g2 w2 hga hba hBa hsa; replace hS := hS.pushBlk hBa hba hga; clear hga hba hBa hsa mk0; have c2 := hS.cell 0 rfl 0; have d2 := hS.cell 0 rfl 1; have e2 := hS.cell 0 rfl 2; have c1 := hS.cell 1 rfl 0; have d1 := hS.cell 1 rfl 1; have e1 := hS.cell 1 rfl 2; simp only [faultC, List.getElem?_cons_zero, List.getElem?_cons_succ] at c1 d1 e1 c2 d2 e2)
      | (refine box_blk rfl 44 _ rfl _ rfl (faultC c _ n) rfl ?_; intro g1 w1 hga hba hBa hsa; replace hS := hS.pushBlk hBa hba hga; clear hga hba hBa hsa; have mk0 : True := trivial)
      | fail)
    go_ret
    exact ⟨rfl, hS.bel⟩
theorem builtF (c n : Int) : Tryz.prog.built 44 [(0, .int .i64 c), (1, .bool true), (2, .int .i64 n)] = some (faultC c true n).toArray := by kernel_rfl
set_option maxHeartbeats 400000 in
set_option maxRecDepth 100000 in
theorem placed_calls (c n : Int) (hc : c ≠ 0) (w : World) : Calls Tryz.prog 63 #[.int .i64 c, .int .i64 n] w fun e w' => e = .returned (.agg (faultC c true n).toArray) ∧ Below w.heap.size w w' := by
  obtain ⟨fs, hfs⟩ := undF
  have hS := HS.start NoF w
  go_enter Tryz.func63, Tryz.ntmps63
  go_wp2_with (first
    | (refine alloc_blk rfl 44 rfl _ rfl (faultC 0 false 0) zeroF ?_; intro g1 w1 hga hba hBa hsa; replace hS : HS NoF w w1 [.blk g1 44 (faultC 0 false 0)] := hS.pushBlk hBa hba hga; clear hga hba hBa hsa)
    | (refine build_to rfl 44 _ rfl (faultC c true n).toArray (by rw [Array.toList_map]; exact builtF _ _) ?_)
    | (refine hs_storeW hS 0 rfl rfl 44 _ _ rfl rfl (faultC c true n) rfl (by simp [faultC, Value.oneCell']) 3 infoF rfl rfl _ rfl ?_; clear hS; intro w2 hS; replace hS : HS NoF w w2 [.blk g1 44 (faultC c true n)] := hS)
    | fail)
  refine bodyPost_ret (results_str1 rfl _ _ g1 44 _ fs rfl (hS.blk 0 rfl) hfs infoF) rfl ?_
  exact ⟨rfl, hS.bel⟩
theorem at_eqlN (g : Nat) (w : World) : (binOp .eql 40 (.iface 92 (.pointer (some ⟨g, 0, none⟩))) .nilIface).run Tryz.prog w = .ok (.bool false) w := by
  obtain ⟨ms, hms⟩ := undErr
  have h : ∀ d : Nat, (Op.equalIn (d + 1) 40 (.iface 92 (.pointer (some ⟨g, 0, none⟩))) .nilIface).run Tryz.prog w = .ok false w := fun d => by simp [Op.equalIn, run_underlying hms]
  simp only [binOp]
  simp [Op.equal, Op.maxDepth, h 9999]
theorem assert_at (g : Nat) (w : World) : (Instr.typeAssert (.iface 92 (.pointer (some ⟨g, 0, none⟩))) 40 92 true).run Tryz.prog w = .ok (.tuple #[.pointer (some ⟨g, 0, none⟩), .bool true]) w := by kernel_rfl
set_option maxHeartbeats 1000000 in
set_option maxRecDepth 100000 in
theorem fault_at_calls {w : World} {P : Nat → Addr} (h : Errs w P) (k g : Nat) (n : Int) (hk : k < 19) (hb : Blk w g 94 [.int .i64 n, errV (P k)]) : Calls Tryz.prog 37 #[.iface 92 (.pointer (some ⟨g, 0, none⟩))] w fun e w' => e = .returned (.agg (faultC (101 + (k : Int)) true n).toArray) ∧ Below w.heap.size w w' := by
  obtain ⟨fs, hfs⟩ := undF
  have hS := HS.start NoF w
  have HB := hid hb
  have HE := hid h
  have hen := err_nil_right (P k)
  have heg := fun op t x y v => eqGuard_err op t x y (P k) v
  have hat := assert_at g
  have hane := at_eqlN g
  have ca : w.cell? ⟨g, 1, none⟩ = some (errV (P k)) := hb.cell 1
  clear hb h
  obtain ⟨c, hc⟩ : ∃ c : Int, Hd (101 + (k : Int) = c) := ⟨_, ⟨rfl⟩⟩
  have hc0 : Hd (c ≠ 0) := hid (by have := hc.out; omega)
  rw [hc.out]
  go_enter Tryz.func37, Tryz.ntmps37
  go_wp2_with (first
    | (refine alloc_blk rfl 44 rfl _ rfl (faultC 0 false 0) zeroF ?_; intro g1 w1 hga hba hBa hsa; replace hS : HS NoF w w1 [.blk g1 44 (faultC 0 false 0)] := hS.pushBlk hBa hba hga; replace ca := (hBa.cell (lt_of_cell ca)).trans ca; clear hga hba hBa hsa)
    | fail)
  clear ca
  try go_wp2_with fail
  refine wp_region_S (F := NoF) (w0 := w) (L0 := [.blk g1 44 (faultC 0 false 0)]) [4, 9] [10]
    (fun iK u E => match iK with
      | 4 => u = .int .i64 c ∧ E = []
      | 9 => u = .agg (faultC c true n).toArray ∧ E = []
      | _ => False)
    ([]) (by kernel_rfl) (by kernel_rfl) hS ?_
  show wpS _ _ _ _ _ _ _ _ _ _ [0, 1, 2, 3, 4, 5, 6, 7, 8, 9, 10] _
  apply wpS_read (i := 0) rfl rfl ⟨_, hS⟩ rfl
  · intro w' hT'
    simp only [getElem_toArray, getElem_cons_zero, getElem_cons_succ]
    go_wp2_with fail
    first | exact ⟨rfl, rfl, rfl⟩ | rfl
  apply wpS_read (i := 1) rfl rfl ⟨_, hS⟩ rfl
  · intro w' hT'
    simp only [getElem_toArray, getElem_cons_zero, getElem_cons_succ]
    go_wp2_with fail
    first | exact ⟨rfl, rfl, rfl⟩ | rfl
  apply wpS_read (i := 2) rfl rfl ⟨_, hS⟩ rfl
  · intro w' hT'
    simp only [getElem_toArray, getElem_cons_zero, getElem_cons_succ]
    go_wp2_with fail
    first | exact ⟨rfl, rfl, rfl⟩ | rfl
  apply wpS_read (i := 3) rfl rfl ⟨_, hS⟩ rfl
  · intro w' hT'
    simp only [getElem_toArray, getElem_cons_zero, getElem_cons_succ]
    have c1 : w'.cell? ⟨g, 1, none⟩ = some (errV (P k)) := (hT'.oldBlk HB.out (fun h => h)).cell 1
    have c0 : w'.cell? ⟨g, 0, none⟩ = some (.int .i64 n) := (hT'.oldBlk HB.out (fun h => h)).cell 0
    go_wp2_with fail
    first | exact ⟨rfl, rfl, rfl⟩ | rfl
  refine wpS_soft (i := 4) rfl rfl rfl (Nat.le_of_ble_eq_true rfl) ?_ ?_
  · intro w' hT
    simp only [getElem_toArray, getElem_cons_zero, getElem_cons_succ]
    go_wp2_with (first
      | (go_at_call 62; refine (sentinel_calls (HE.out.below hT.bel) k hk).mono ?_; rintro e w6 ⟨rfl, hB⟩; rw [hc.out])
      | fail)
    exact SoftP.mk' (.int .i64 c) ([]) rfl (⟨rfl, rfl⟩) (hT.below hB) (hB) (fun _ h => by cases h)
  intro u4 E4 hK4
  obtain ⟨rfl, rfl⟩ := hK4
  simp only [Act.put, List.setIfInBounds_toArray, List.set_cons_zero, List.set_cons_succ]
  apply wpS_read (i := 5) rfl rfl ⟨_, hS⟩ rfl
  · intro w' hT'
    simp only [getElem_toArray, getElem_cons_zero, getElem_cons_succ]
    go_wp2_with fail
    first | exact ⟨rfl, rfl, rfl⟩ | rfl
  apply wpS_read (i := 6) rfl rfl ⟨_, hS⟩ rfl
  · intro w' hT'
    simp only [getElem_toArray, getElem_cons_zero, getElem_cons_succ]
    go_wp2_with fail
    first | exact ⟨rfl, rfl, rfl⟩ | rfl
  apply wpS_read (i := 7) rfl rfl ⟨_, hS⟩ rfl
  · intro w' hT'
    simp only [getElem_toArray, getElem_cons_zero, getElem_cons_succ]
    go_wp2_with fail
    first | exact ⟨rfl, rfl, rfl⟩ | rfl
  apply wpS_read (i := 8) rfl rfl ⟨_, hS⟩ rfl
  · intro w' hT'
    simp only [getElem_toArray, getElem_cons_zero, getElem_cons_succ]
    have c1 : w'.cell? ⟨g, 1, none⟩ = some (errV (P k)) := (hT'.oldBlk HB.out (fun h => h)).cell 1
    have c0 : w'.cell? ⟨g, 0, none⟩ = some (.int .i64 n) := (hT'.oldBlk HB.out (fun h => h)).cell 0
    go_wp2_with fail
    first | exact ⟨rfl, rfl, rfl⟩ | rfl
  refine wpS_soft (i := 9) rfl rfl rfl (Nat.le_of_ble_eq_true rfl) ?_ ?_
  · intro w' hT
    simp only [getElem_toArray, getElem_cons_zero, getElem_cons_succ]
    go_wp2_with (first
      | (go_at_call 63; refine (placed_calls c n hc0.out _).mono ?_; rintro e w6 ⟨rfl, hB⟩)
      | fail)
    exact SoftP.mk' (.agg (faultC c true n).toArray) ([]) rfl (⟨rfl, rfl⟩) (hT.below hB) (hB) (fun _ h => by cases h)
  intro u9 E9 hK9
  obtain ⟨rfl, rfl⟩ := hK9
  simp only [Act.put, List.setIfInBounds_toArray, List.set_cons_zero, List.set_cons_succ]
  refine wpS_tot (i := 10) rfl rfl (by kernel_rfl) ?_
  intro w10 hT
  replace hT : HS NoF w w10 [.blk g1 44 (faultC 0 false 0)] := hT
  simp only [getElem_toArray, getElem_cons_zero, getElem_cons_succ]
  go_wp2_with (first
    | (refine hs_storeW hT 0 rfl rfl 44 _ _ rfl rfl (faultC c true n) rfl (by simp [faultC, Value.oneCell']) 3 infoF rfl rfl _ rfl ?_; clear hT; intro w9 hT; replace hT : HS NoF w w9 [.blk g1 44 (faultC c true n)] := hT)
    | fail)
  refine TotP.mk' ([.blk g1 44 (faultC c true n)]) rfl ?_ ?_
  · exact hT
  clear hT
  refine wpS_end ?_
  intro wz hT
  try dsimp only
  clear hS
  have hS : HS NoF w wz [.blk g1 44 (faultC c true n)] := hT
  clear hT
  go_wp2_with fail
  refine bodyPost_ret (results_str1 rfl _ _ g1 44 _ fs rfl (hS.blk 0 rfl) hfs infoF) rfl ?_
  exact ⟨rfl, hS.bel⟩
theorem fault_tells {w : World} {P : Nat → Addr} (hE : Errs w P) {v : Value} {c n : Int} {p : Bool} (h : Tells w P v c p n) : Calls Tryz.prog 37 #[v] w fun e w' => e = .returned (.agg (faultC c p n).toArray) ∧ Below w.heap.size w w' := by
  rcases h with ⟨rfl, rfl, rfl, rfl⟩ | ⟨k, hk, rfl, rfl, rfl, rfl⟩ | ⟨k, g, hk, rfl, hb, rfl, rfl⟩
  · exact fault_nil_calls w
  · exact fault_calls hE k hk
  · exact fault_at_calls hE k g n hk hb
set_option maxHeartbeats 1000000 in
set_option maxRecDepth 100000 in
theorem sameT_calls {w : World} {P : Nat → Addr} (hE : Errs w P) {v : Value} {c n : Int} {p : Bool} (h : Tells w P v c p n) (d m : Int) (q : Bool) : Calls Tryz.prog 11 #[v, .agg (faultC d q m).toArray] w fun e w' => e = .returned (.bool (c == d && p == q && n == m)) ∧ Below w.heap.size w w' := by
  obtain ⟨fs, hfs⟩ := undF
  have hS := HS.start NoF w
  have HE := hid hE
  have HT := hid h
  clear h hE
  obtain ⟨bb, hbb⟩ : ∃ bb : Bool, Hd ((c == d && p == q && n == m) = bb) := ⟨_, hid rfl⟩
  rw [hbb.out]
  go_enter Tryz.func11, Tryz.ntmps11
  go_wp2_with (first
    | (refine box_blk rfl 44 _ rfl _ rfl (faultC d q m) rfl ?_; intro g1 w1 hga hba hBa hsa; replace hS : HS NoF w w1 [.blk g1 44 (faultC d q m)] := hS.pushBlk hBa hba hga; clear hga hba hBa hsa)
    | fail)
  try go_wp2_with fail
  refine wp_region_S (F := NoF) (w0 := w) (L0 := [.blk g1 44 (faultC d q m)]) [1, 3] []
    (fun iK u E => match iK with
      | 1 => u = .agg (faultC c p n).toArray ∧ E = []
      | 3 => u = .bool bb ∧ E = []
      | _ => False)
    ([]) (by kernel_rfl) (by kernel_rfl) hS ?_
  show wpS _ _ _ _ _ _ _ _ _ _ [0, 1, 2, 3, 4] _
  apply wpS_read (i := 0) rfl rfl ⟨_, hS⟩ rfl
  · intro w' hT'
    simp only [getElem_toArray, getElem_cons_zero, getElem_cons_succ]
    go_wp2_with fail
    first | exact ⟨rfl, rfl, rfl⟩ | rfl
  refine wpS_soft (i := 1) rfl rfl rfl (Nat.le_of_ble_eq_true rfl) ?_ ?_
  · intro w' hT
    simp only [getElem_toArray, getElem_cons_zero, getElem_cons_succ]
    go_wp2_with (first
      | (go_at_call 37; refine (fault_tells (HE.out.below hT.bel) (HT.out.below hT.bel)).mono ?_; rintro e w6 ⟨rfl, hB⟩)
      | fail)
    exact SoftP.mk' (.agg (faultC c p n).toArray) ([]) rfl (⟨rfl, rfl⟩) (hT.below hB) (hB) (fun _ h => by cases h)
  intro u1 E1 hK1
  obtain ⟨rfl, rfl⟩ := hK1
  simp only [Act.put, List.setIfInBounds_toArray, List.set_cons_zero, List.set_cons_succ]
  apply wpS_read (i := 2) rfl rfl ⟨_, hS⟩ rfl
  · intro w' hT'
    simp only [getElem_toArray, getElem_cons_zero, getElem_cons_succ]
    go_wp2_with (first
      | (refine hs_loadW hT' 0 rfl rfl 44 _ rfl rfl 3 infoF rfl _ hfs rfl _ rfl ?_)
      | fail)
    first | exact ⟨rfl, rfl, rfl⟩ | rfl
  refine wpS_soft (i := 3) rfl rfl rfl (Nat.le_of_ble_eq_true rfl) ?_ ?_
  · intro w' hT
    simp only [getElem_toArray, getElem_cons_zero, getElem_cons_succ]
    go_wp2_with (first
      | (go_at_call 36; refine (samef_calls c n d m p q _).mono ?_; rintro e w6 ⟨rfl, hB⟩; rw [hbb.out])
      | fail)
    exact SoftP.mk' (.bool bb) ([]) rfl (⟨rfl, rfl⟩) (hT.below hB) (hB) (fun _ h => by cases h)
  intro u3 E3 hK3
  obtain ⟨rfl, rfl⟩ := hK3
  simp only [Act.put, List.setIfInBounds_toArray, List.set_cons_zero, List.set_cons_succ]
  apply wpS_read (i := 4) rfl rfl ⟨_, hS⟩ rfl
  · intro w' hT'
    simp only [getElem_toArray, getElem_cons_zero, getElem_cons_succ]
    go_wp2_with fail
    first | exact ⟨rfl, rfl, rfl⟩ | rfl
  refine wpS_end ?_
  intro wz hT
  try dsimp only
  clear hS
  have hS : HS NoF w wz [.blk g1 44 (faultC d q m)] := hT
  clear hT
  go_wp2_with fail
  refine bodyPost_ret (results_tmp rfl _ _ _) rfl ?_
  exact ⟨rfl, hS.bel⟩
end Go.Proofs.YtlikinglgegclaaGreatDoor
/- desc: count, Total, Place, Check. -/
namespace Go.Proofs.YtlikinglgegclaaGreatDoor
open Go.RowKit Go.Cour
set_option maxHeartbeats 400000 in
set_option maxRecDepth 100000 in
theorem dcount_calls (D : List Value) (m q N : Nat) (w : World) (hl : D.length = 99) (h1 : D[1]? = some (.int .u32 (m : Int))) (h2 : D[2]? = some (.int .u32 (q : Int))) (hm : m ≤ 1000000) (hq : q ≤ 1000000) (hN : countI m q = (N : Int)) :
    Calls Tryz.prog 38 #[.agg D.toArray] w fun e w' => e = .returned (.int .i64 (N : Int)) ∧ Below w.heap.size w w' := by
  have H1 := hid h1
  have H2 := hid h2
  have HN := hid hN
  have hS := HS.start NoF w
  clear hl h1 h2 hN
  go_enter Tryz.func38, Tryz.ntmps38
  go_wp2_with (first
    | (refine box_blk rfl 27 _ rfl _ rfl D rfl ?_; intro g1 w1 hga hba hBa hsa; replace hS : HS NoF w w1 [.blk g1 27 D] := hS.pushBlk hBa hba hga; clear hga hba hBa hsa; have c1 : w1.cell? ⟨g1, 1, none⟩ = _ := (hS.cell 0 rfl 1).trans H1.out; have c2 : w1.cell? ⟨g1, 2, none⟩ = _ := (hS.cell 0 rfl 2).trans H2.out)
    | (go_at_call 64; refine (count_calls (m : Int) (q : Int) _ (by omega) (by omega)).mono ?_; rintro e w6 ⟨rfl, rfl⟩; rw [HN.out])
    | fail)
  go_ret
  exact ⟨rfl, hS.bel⟩
set_option maxHeartbeats 400000 in
set_option maxRecDepth 100000 in
theorem dtotal_calls (D : List Value) (m q N : Nat) (w : World) (hl : D.length = 99) (h1 : D[1]? = some (.int .u32 (m : Int))) (h2 : D[2]? = some (.int .u32 (q : Int))) (hm : m ≤ 1000) (hq : q ≤ 1000000) (hN : countI m q = (N : Int)) (hN2 : N ≤ 1000) :
    Calls Tryz.prog 21 #[.agg D.toArray] w fun e w' => e = .returned (.int .i64 ((N : Int) * 48 + m)) ∧ Below w.heap.size w w' := by
  have HL := hid hl
  have H1 := hid h1
  have H2 := hid h2
  have HN := hid hN
  have hS := HS.start NoF w
  clear hl h1 h2 hN
  go_enter Tryz.func21, Tryz.ntmps21
  go_wp2_with (first
    | (refine box_blk rfl 27 _ rfl _ rfl D rfl ?_; intro g1 w1 hga hba hBa hsa; replace hS : HS NoF w w1 [.blk g1 27 D] := hS.pushBlk hBa hba hga; clear hga hba hBa hsa)
    | fail)
  try go_wp2_with fail
  refine wp_region_S (F := NoF) (w0 := w) (L0 := [.blk g1 27 D]) [1] []
    (fun iK u E => match iK with
      | 1 => u = .int .i64 (N : Int) ∧ E = []
      | _ => False)
    ([]) (by kernel_rfl) (by kernel_rfl) hS ?_
  show wpS _ _ _ _ _ _ _ _ _ _ [0, 1, 2, 3, 4, 5, 6, 7] _
  apply wpS_read (i := 0) rfl rfl ⟨_, hS⟩ rfl
  · intro w' hT'
    simp only [getElem_toArray, getElem_cons_zero, getElem_cons_succ]
    have c1 : w'.cell? ⟨g1, 1, none⟩ = _ := (hT'.cell 0 rfl 1).trans H1.out
    go_wp2_with (first
      | (refine hs_loadW hT' 0 rfl rfl 27 _ rfl rfl 99 sizeDesc HL.out _ undDesc.choose_spec rfl _ rfl ?_)
      | fail)
    first | exact ⟨rfl, rfl, rfl⟩ | rfl
  refine wpS_soft (i := 1) rfl rfl rfl (Nat.le_of_ble_eq_true rfl) ?_ ?_
  · intro w' hT
    simp only [getElem_toArray, getElem_cons_zero, getElem_cons_succ]
    go_wp2_with (first
      | (go_at_call 38; refine (dcount_calls D m q N _ HL.out H1.out H2.out (by omega) (by omega) HN.out).mono ?_; rintro e w6 ⟨rfl, hB6⟩)
      | fail)
    exact SoftP.mk' (.int .i64 (N : Int)) ([]) rfl (⟨rfl, rfl⟩) (hT.below hB6) (hB6) (fun _ h => by cases h)
  intro u1 E1 hK1
  obtain ⟨rfl, rfl⟩ := hK1
  simp only [Act.put, List.setIfInBounds_toArray, List.set_cons_zero, List.set_cons_succ]
  apply wpS_read (i := 2) rfl rfl ⟨_, hS⟩ rfl
  · intro w' hT'
    simp only [getElem_toArray, getElem_cons_zero, getElem_cons_succ]
    go_wp2_with (first
      | (refine hs_loadW hT' 0 rfl rfl 27 _ rfl rfl 99 sizeDesc HL.out _ undDesc.choose_spec rfl _ rfl ?_)
      | fail)
    first | exact ⟨rfl, rfl, rfl⟩ | rfl
  apply wpS_read (i := 3) rfl rfl ⟨_, hS⟩ rfl
  · intro w' hT'
    simp only [getElem_toArray, getElem_cons_zero, getElem_cons_succ]
    go_wp2_with fail
    first | exact ⟨rfl, rfl, rfl⟩ | rfl
  apply wpS_read (i := 4) rfl rfl ⟨_, hS⟩ rfl
  · intro w' hT'
    simp only [getElem_toArray, getElem_cons_zero, getElem_cons_succ]
    have c1 : w'.cell? ⟨g1, 1, none⟩ = _ := (hT'.cell 0 rfl 1).trans H1.out
    go_wp2_with (first
      | (refine hs_loadW hT' 0 rfl rfl 27 _ rfl rfl 99 sizeDesc HL.out _ undDesc.choose_spec rfl _ rfl ?_)
      | fail)
    first | exact ⟨rfl, rfl, rfl⟩ | rfl
  apply wpS_read (i := 5) rfl rfl ⟨_, hS⟩ rfl
  · intro w' hT'
    simp only [getElem_toArray, getElem_cons_zero, getElem_cons_succ]
    go_wp2_with (first
      | (refine hs_loadW hT' 0 rfl rfl 27 _ rfl rfl 99 sizeDesc HL.out _ undDesc.choose_spec rfl _ rfl ?_)
      | fail)
    first | exact ⟨rfl, rfl, rfl⟩ | rfl
  apply wpS_read (i := 6) rfl rfl ⟨_, hS⟩ rfl
  · intro w' hT'
    simp only [getElem_toArray, getElem_cons_zero, getElem_cons_succ]
    go_wp2_with (first
      | (refine hs_loadW hT' 0 rfl rfl 27 _ rfl rfl 99 sizeDesc HL.out _ undDesc.choose_spec rfl _ rfl ?_)
      | fail)
    first | exact ⟨rfl, rfl, rfl⟩ | rfl
  apply wpS_read (i := 7) rfl rfl ⟨_, hS⟩ rfl
  · intro w' hT'
    simp only [getElem_toArray, getElem_cons_zero, getElem_cons_succ]
    go_wp2_with fail
    first | exact ⟨rfl, rfl, rfl⟩ | rfl
  refine wpS_end ?_
  intro wz hT
  try dsimp only
  clear hS
  have hS : HS NoF w wz [.blk g1 27 D] := hT
  clear hT
  go_wp2_with fail
  go_ret
  exact ⟨rfl, hS.bel⟩
set_option maxHeartbeats 1000000 in
set_option maxRecDepth 100000 in
theorem dplace_calls (D : List Value) (m q N i f t p : Nat) (w : World) (hl : D.length = 99) (h1 : D[1]? = some (.int .u32 (m : Int))) (h2 : D[2]? = some (.int .u32 (q : Int))) (hm : m ≤ 1000) (hq : q ≤ 1000) (hN : countI m q = (N : Int)) (hN2 : N ≤ 1000) (hi : i < N)
    (hf : i * q = f) (hfm : f ≤ m) (ht : min q (m - f) = t) (hp : N * 32 + i * 16 + f = p) :
    Calls Tryz.prog 12 #[.agg D.toArray, .int .i64 (i : Int)] w fun e w' => e = .returned (.tuple #[.int .i64 (p : Int), .int .i64 ((t : Int) + 16)]) ∧ Below w.heap.size w w' := by
  have HL := hid hl
  have H1 := hid h1
  have H2 := hid h2
  have HN := hid hN
  have HP := hid hp
  have HT := hid ht
  have hS := HS.start NoF w
  have hfi : (i : Int) * (q : Int) = (f : Int) := by rw [← hf]; simp
  have hli : (i : Int) < N := by omega
  clear hl h1 h2 hN hf hp ht
  by_cases hc : q ≤ m - f
  · have ht2 : t = q := by have := HT.out; omega
    have hmin : (q : Int) ≤ (m : Int) - f := by omega
    clear hc
    go_enter Tryz.func12, Tryz.ntmps12
    go_wp2_with (first
        | (refine box_blk rfl 27 _ rfl _ rfl D rfl ?_; intro g1 w1 hga hba hBa hsa; replace hS : HS NoF w w1 [.blk g1 27 D] := hS.pushBlk hBa hba hga; clear hga hba hBa hsa)
        | (refine hs_loadW hS 0 rfl rfl 27 _ rfl rfl 99 sizeDesc HL.out _ undDesc.choose_spec rfl _ rfl ?_)
        | (go_at_call 38; refine (dcount_calls D m q N _ HL.out H1.out H2.out (by omega) (by omega) HN.out).mono ?_; rintro e w6 ⟨rfl, hB6⟩; replace hS := hS.below hB6; clear hB6; have c1 : w6.cell? ⟨g1, 1, none⟩ = _ := (hS.cell 0 rfl 1).trans H1.out; have c2 : w6.cell? ⟨g1, 2, none⟩ = _ := (hS.cell 0 rfl 2).trans H2.out)
        | fail)
    clear c1 c2
    try go_wp2_with fail
    refine wp_region_S (F := NoF) (w0 := w) (L0 := [.blk g1 27 D]) [] []
      (fun iK u E => match iK with
        | _ => False)
      ([]) (by kernel_rfl) (by kernel_rfl) hS ?_
    show wpS _ _ _ _ _ _ _ _ _ _ [0, 1, 2, 3, 4, 5, 6, 7, 8, 9, 10, 11, 12, 13, 14, 15, 16, 17, 18] _
    apply wpS_read (i := 0) rfl rfl ⟨_, hS⟩ rfl
    · intro w' hT'
      simp only [getElem_toArray, getElem_cons_zero, getElem_cons_succ]
      go_wp2_with fail
      first | exact ⟨rfl, rfl, rfl⟩ | rfl
    apply wpS_read (i := 1) rfl rfl ⟨_, hS⟩ rfl
    · intro w' hT'
      simp only [getElem_toArray, getElem_cons_zero, getElem_cons_succ]
      go_wp2_with fail
      first | exact ⟨rfl, rfl, rfl⟩ | rfl
    apply wpS_read (i := 2) rfl rfl ⟨_, hS⟩ rfl
    · intro w' hT'
      simp only [getElem_toArray, getElem_cons_zero, getElem_cons_succ]
      go_wp2_with fail
      first | exact ⟨rfl, rfl, rfl⟩ | rfl
    apply wpS_read (i := 3) rfl rfl ⟨_, hS⟩ rfl
    · intro w' hT'
      simp only [getElem_toArray, getElem_cons_zero, getElem_cons_succ]
      go_wp2_with fail
      first | exact ⟨rfl, rfl, rfl⟩ | rfl
    apply wpS_read (i := 4) rfl rfl ⟨_, hS⟩ rfl
    · intro w' hT'
      simp only [getElem_toArray, getElem_cons_zero, getElem_cons_succ]
      go_wp2_with fail
      first | exact ⟨rfl, rfl, rfl⟩ | rfl
    apply wpS_read (i := 5) rfl rfl ⟨_, hS⟩ rfl
    · intro w' hT'
      simp only [getElem_toArray, getElem_cons_zero, getElem_cons_succ]
      go_wp2_with fail
      first | exact ⟨rfl, rfl, rfl⟩ | rfl
    apply wpS_read (i := 6) rfl rfl ⟨_, hS⟩ rfl
    · intro w' hT'
      simp only [getElem_toArray, getElem_cons_zero, getElem_cons_succ]
      go_wp2_with fail
      first | exact ⟨rfl, rfl, rfl⟩ | rfl
    apply wpS_read (i := 7) rfl rfl ⟨_, hS⟩ rfl
    · intro w' hT'
      simp only [getElem_toArray, getElem_cons_zero, getElem_cons_succ]
      go_wp2_with fail
      first | exact ⟨rfl, rfl, rfl⟩ | rfl
    apply wpS_read (i := 8) rfl rfl ⟨_, hS⟩ rfl
    · intro w' hT'
      simp only [getElem_toArray, getElem_cons_zero, getElem_cons_succ]
      have c1 : w'.cell? ⟨g1, 1, none⟩ = _ := (hT'.cell 0 rfl 1).trans H1.out
      have c2 : w'.cell? ⟨g1, 2, none⟩ = _ := (hT'.cell 0 rfl 2).trans H2.out
      go_wp2_with fail
      first | exact ⟨rfl, rfl, rfl⟩ | rfl
    apply wpS_read (i := 9) rfl rfl ⟨_, hS⟩ rfl
    · intro w' hT'
      simp only [getElem_toArray, getElem_cons_zero, getElem_cons_succ]
      go_wp2_with fail
      first | exact ⟨rfl, rfl, rfl⟩ | rfl
    apply wpS_read (i := 10) rfl rfl ⟨_, hS⟩ rfl
    · intro w' hT'
      simp only [getElem_toArray, getElem_cons_zero, getElem_cons_succ]
      go_wp2_with fail
      first | exact ⟨rfl, rfl, rfl⟩ | rfl
    apply wpS_read (i := 11) rfl rfl ⟨_, hS⟩ rfl
    · intro w' hT'
      simp only [getElem_toArray, getElem_cons_zero, getElem_cons_succ]
      have c1 : w'.cell? ⟨g1, 1, none⟩ = _ := (hT'.cell 0 rfl 1).trans H1.out
      have c2 : w'.cell? ⟨g1, 2, none⟩ = _ := (hT'.cell 0 rfl 2).trans H2.out
      go_wp2_with fail
      first | exact ⟨rfl, rfl, rfl⟩ | rfl
    apply wpS_read (i := 12) rfl rfl ⟨_, hS⟩ rfl
    · intro w' hT'
      simp only [getElem_toArray, getElem_cons_zero, getElem_cons_succ]
      go_wp2_with fail
      first | exact ⟨rfl, rfl, rfl⟩ | rfl
    apply wpS_read (i := 13) rfl rfl ⟨_, hS⟩ rfl
    · intro w' hT'
      simp only [getElem_toArray, getElem_cons_zero, getElem_cons_succ]
      go_wp2_with fail
      first | exact ⟨rfl, rfl, rfl⟩ | rfl
    apply wpS_read (i := 14) rfl rfl ⟨_, hS⟩ rfl
    · intro w' hT'
      simp only [getElem_toArray, getElem_cons_zero, getElem_cons_succ]
      go_wp2_with fail
      first | exact ⟨rfl, rfl, rfl⟩ | rfl
    apply wpS_read (i := 15) rfl rfl ⟨_, hS⟩ rfl
    · intro w' hT'
      simp only [getElem_toArray, getElem_cons_zero, getElem_cons_succ]
      go_wp2_with fail
      first | exact ⟨rfl, rfl, rfl⟩ | rfl
    apply wpS_read (i := 16) rfl rfl ⟨_, hS⟩ rfl
    · intro w' hT'
      simp only [getElem_toArray, getElem_cons_zero, getElem_cons_succ]
      go_wp2_with fail
      first | exact ⟨rfl, rfl, rfl⟩ | rfl
    apply wpS_read (i := 17) rfl rfl ⟨_, hS⟩ rfl
    · intro w' hT'
      simp only [getElem_toArray, getElem_cons_zero, getElem_cons_succ]
      go_wp2_with fail
      first | exact ⟨rfl, rfl, rfl⟩ | rfl
    apply wpS_read (i := 18) rfl rfl ⟨_, hS⟩ rfl
    · intro w' hT'
      simp only [getElem_toArray, getElem_cons_zero, getElem_cons_succ]
      go_wp2_with fail
      first | exact ⟨rfl, rfl, rfl⟩ | rfl
    refine wpS_end ?_
    intro wz hT
    try dsimp only
    clear hS
    have hS : HS NoF w wz [.blk g1 27 D] := hT
    clear hT
    go_wp2_with fail
    refine bodyPost_ret (Go.Cour.results_tmp2 rfl _ _ rfl rfl) rfl ⟨by show Ending.returned (.tuple #[.int .i64 ((N : Int) * 32 + (i : Int) * 16 + (f : Int)), .int .i64 ((q : Int) + 16)]) = _; rw [ht2, show (p : Int) = (N : Int) * 32 + (i : Int) * 16 + f by have := HP.out; omega], hS.bel⟩
  · have ht2 : (t : Int) = (m : Int) - f := by have := HT.out; omega
    have hmin : ¬ (q : Int) ≤ (m : Int) - f := by omega
    clear hc
    go_enter Tryz.func12, Tryz.ntmps12
    go_wp2_with (first
        | (refine box_blk rfl 27 _ rfl _ rfl D rfl ?_; intro g1 w1 hga hba hBa hsa; replace hS : HS NoF w w1 [.blk g1 27 D] := hS.pushBlk hBa hba hga; clear hga hba hBa hsa)
        | (refine hs_loadW hS 0 rfl rfl 27 _ rfl rfl 99 sizeDesc HL.out _ undDesc.choose_spec rfl _ rfl ?_)
        | (go_at_call 38; refine (dcount_calls D m q N _ HL.out H1.out H2.out (by omega) (by omega) HN.out).mono ?_; rintro e w6 ⟨rfl, hB6⟩; replace hS := hS.below hB6; clear hB6; have c1 : w6.cell? ⟨g1, 1, none⟩ = _ := (hS.cell 0 rfl 1).trans H1.out; have c2 : w6.cell? ⟨g1, 2, none⟩ = _ := (hS.cell 0 rfl 2).trans H2.out)
        | fail)
    clear c1 c2
    try go_wp2_with fail
    refine wp_region_S (F := NoF) (w0 := w) (L0 := [.blk g1 27 D]) [] []
      (fun iK u E => match iK with
        | _ => False)
      ([]) (by kernel_rfl) (by kernel_rfl) hS ?_
    show wpS _ _ _ _ _ _ _ _ _ _ [0, 1, 2, 3, 4, 5, 6, 7, 8, 9, 10, 11, 12, 13, 14, 15, 16, 17, 18] _
    apply wpS_read (i := 0) rfl rfl ⟨_, hS⟩ rfl
    · intro w' hT'
      simp only [getElem_toArray, getElem_cons_zero, getElem_cons_succ]
      go_wp2_with fail
      first | exact ⟨rfl, rfl, rfl⟩ | rfl
    apply wpS_read (i := 1) rfl rfl ⟨_, hS⟩ rfl
    · intro w' hT'
      simp only [getElem_toArray, getElem_cons_zero, getElem_cons_succ]
      go_wp2_with fail
      first | exact ⟨rfl, rfl, rfl⟩ | rfl
    apply wpS_read (i := 2) rfl rfl ⟨_, hS⟩ rfl
    · intro w' hT'
      simp only [getElem_toArray, getElem_cons_zero, getElem_cons_succ]
      go_wp2_with fail
      first | exact ⟨rfl, rfl, rfl⟩ | rfl
    apply wpS_read (i := 3) rfl rfl ⟨_, hS⟩ rfl
    · intro w' hT'
      simp only [getElem_toArray, getElem_cons_zero, getElem_cons_succ]
      go_wp2_with fail
      first | exact ⟨rfl, rfl, rfl⟩ | rfl
    apply wpS_read (i := 4) rfl rfl ⟨_, hS⟩ rfl
    · intro w' hT'
      simp only [getElem_toArray, getElem_cons_zero, getElem_cons_succ]
      go_wp2_with fail
      first | exact ⟨rfl, rfl, rfl⟩ | rfl
    apply wpS_read (i := 5) rfl rfl ⟨_, hS⟩ rfl
    · intro w' hT'
      simp only [getElem_toArray, getElem_cons_zero, getElem_cons_succ]
      go_wp2_with fail
      first | exact ⟨rfl, rfl, rfl⟩ | rfl
    apply wpS_read (i := 6) rfl rfl ⟨_, hS⟩ rfl
    · intro w' hT'
      simp only [getElem_toArray, getElem_cons_zero, getElem_cons_succ]
      go_wp2_with fail
      first | exact ⟨rfl, rfl, rfl⟩ | rfl
    apply wpS_read (i := 7) rfl rfl ⟨_, hS⟩ rfl
    · intro w' hT'
      simp only [getElem_toArray, getElem_cons_zero, getElem_cons_succ]
      go_wp2_with fail
      first | exact ⟨rfl, rfl, rfl⟩ | rfl
    apply wpS_read (i := 8) rfl rfl ⟨_, hS⟩ rfl
    · intro w' hT'
      simp only [getElem_toArray, getElem_cons_zero, getElem_cons_succ]
      have c1 : w'.cell? ⟨g1, 1, none⟩ = _ := (hT'.cell 0 rfl 1).trans H1.out
      have c2 : w'.cell? ⟨g1, 2, none⟩ = _ := (hT'.cell 0 rfl 2).trans H2.out
      go_wp2_with fail
      first | exact ⟨rfl, rfl, rfl⟩ | rfl
    apply wpS_read (i := 9) rfl rfl ⟨_, hS⟩ rfl
    · intro w' hT'
      simp only [getElem_toArray, getElem_cons_zero, getElem_cons_succ]
      go_wp2_with fail
      first | exact ⟨rfl, rfl, rfl⟩ | rfl
    apply wpS_read (i := 10) rfl rfl ⟨_, hS⟩ rfl
    · intro w' hT'
      simp only [getElem_toArray, getElem_cons_zero, getElem_cons_succ]
      go_wp2_with fail
      first | exact ⟨rfl, rfl, rfl⟩ | rfl
    apply wpS_read (i := 11) rfl rfl ⟨_, hS⟩ rfl
    · intro w' hT'
      simp only [getElem_toArray, getElem_cons_zero, getElem_cons_succ]
      have c1 : w'.cell? ⟨g1, 1, none⟩ = _ := (hT'.cell 0 rfl 1).trans H1.out
      have c2 : w'.cell? ⟨g1, 2, none⟩ = _ := (hT'.cell 0 rfl 2).trans H2.out
      go_wp2_with fail
      first | exact ⟨rfl, rfl, rfl⟩ | rfl
    apply wpS_read (i := 12) rfl rfl ⟨_, hS⟩ rfl
    · intro w' hT'
      simp only [getElem_toArray, getElem_cons_zero, getElem_cons_succ]
      go_wp2_with fail
      first | exact ⟨rfl, rfl, rfl⟩ | rfl
    apply wpS_read (i := 13) rfl rfl ⟨_, hS⟩ rfl
    · intro w' hT'
      simp only [getElem_toArray, getElem_cons_zero, getElem_cons_succ]
      go_wp2_with fail
      first | exact ⟨rfl, rfl, rfl⟩ | rfl
    apply wpS_read (i := 14) rfl rfl ⟨_, hS⟩ rfl
    · intro w' hT'
      simp only [getElem_toArray, getElem_cons_zero, getElem_cons_succ]
      go_wp2_with fail
      first | exact ⟨rfl, rfl, rfl⟩ | rfl
    apply wpS_read (i := 15) rfl rfl ⟨_, hS⟩ rfl
    · intro w' hT'
      simp only [getElem_toArray, getElem_cons_zero, getElem_cons_succ]
      go_wp2_with fail
      first | exact ⟨rfl, rfl, rfl⟩ | rfl
    apply wpS_read (i := 16) rfl rfl ⟨_, hS⟩ rfl
    · intro w' hT'
      simp only [getElem_toArray, getElem_cons_zero, getElem_cons_succ]
      go_wp2_with fail
      first | exact ⟨rfl, rfl, rfl⟩ | rfl
    apply wpS_read (i := 17) rfl rfl ⟨_, hS⟩ rfl
    · intro w' hT'
      simp only [getElem_toArray, getElem_cons_zero, getElem_cons_succ]
      go_wp2_with fail
      first | exact ⟨rfl, rfl, rfl⟩ | rfl
    apply wpS_read (i := 18) rfl rfl ⟨_, hS⟩ rfl
    · intro w' hT'
      simp only [getElem_toArray, getElem_cons_zero, getElem_cons_succ]
      go_wp2_with fail
      first | exact ⟨rfl, rfl, rfl⟩ | rfl
    refine wpS_end ?_
    intro wz hT
    try dsimp only
    clear hS
    have hS : HS NoF w wz [.blk g1 27 D] := hT
    clear hT
    go_wp2_with fail
    refine bodyPost_ret (Go.Cour.results_tmp2 rfl _ _ rfl rfl) rfl ⟨by show Ending.returned (.tuple #[.int .i64 ((N : Int) * 32 + (i : Int) * 16 + (f : Int)), .int .i64 ((m : Int) - f + 16)]) = _; rw [ht2, show (p : Int) = (N : Int) * 32 + (i : Int) * 16 + f by have := HP.out; omega], hS.bel⟩
set_option maxHeartbeats 400000 in
set_option maxRecDepth 100000 in
theorem dcheck_ok (D : List Value) (m q : Nat) (w : World) (h1 : D[1]? = some (.int .u32 (m : Int))) (h2 : D[2]? = some (.int .u32 (q : Int))) (hm : m ≤ 600) (hq : 1 ≤ q ∧ q ≤ 64) :
    Calls Tryz.prog 17 #[.agg D.toArray] w fun e w' => e = .returned .nilIface ∧ Below w.heap.size w w' := by
  have H1 := hid h1
  have H2 := hid h2
  have hS := HS.start NoF w
  have f1 : ¬ (600 : Int) < m := by omega
  have f2 : ¬ (q : Int) < 1 := by omega
  have f3 : ¬ (64 : Int) < q := by omega
  clear h1 h2
  go_enter Tryz.func17, Tryz.ntmps17
  go_wp2_with (first
    | (refine box_blk rfl 27 _ rfl _ rfl D rfl ?_; intro g1 w1 hga hba hBa hsa; replace hS : HS NoF w w1 [.blk g1 27 D] := hS.pushBlk hBa hba hga; clear hga hba hBa hsa; have c1 : w1.cell? ⟨g1, 1, none⟩ = _ := (hS.cell 0 rfl 1).trans H1.out; have c2 : w1.cell? ⟨g1, 2, none⟩ = _ := (hS.cell 0 rfl 2).trans H2.out)
    | fail)
  go_ret
  exact ⟨rfl, hS.bel⟩
set_option maxHeartbeats 1000000 in
set_option maxRecDepth 100000 in
theorem dcheck_bad (D : List Value) (m q : Nat) {w : World} {P : Nat → Addr} (hE : Errs w P) (h1 : D[1]? = some (.int .u32 (m : Int))) (h2 : D[2]? = some (.int .u32 (q : Int))) (hb : 600 < m ∨ q < 1 ∨ 64 < q) :
    Calls Tryz.prog 17 #[.agg D.toArray] w fun e w' => e = .returned (errV (P 1)) ∧ Below w.heap.size w w' := by
  have H1 := hid h1
  have H2 := hid h2
  have HG : Hd (w.cell? ⟨0, 0, none⟩ = some (errV (P 1))) := hid (hE.cell 1 (by omega))
  have hS := HS.start NoF w
  clear h1 h2
  generalize errV (P 1) = V at *
  by_cases a : 600 < m
  · have f1 : (600 : Int) < m := by omega
    clear hb a
    go_enter Tryz.func17, Tryz.ntmps17
    go_wp2_with (first
      | (refine box_blk rfl 27 _ rfl _ rfl D rfl ?_; intro g1 w1 hga hba hBa hsa; replace hS : HS NoF w w1 [.blk g1 27 D] := hS.pushBlk hBa hba hga; clear hga hba hBa hsa; have c1 : w1.cell? ⟨g1, 1, none⟩ = _ := (hS.cell 0 rfl 1).trans H1.out; have c2 : w1.cell? ⟨g1, 2, none⟩ = _ := (hS.cell 0 rfl 2).trans H2.out; have cg := hS.oldCell HG.out (fun h => h))
      | fail)
    go_ret
    exact ⟨rfl, hS.bel⟩
  · have f1 : ¬ (600 : Int) < m := by omega
    by_cases b : q < 1
    · have f2 : (q : Int) < 1 := by omega
      clear hb a b
      go_enter Tryz.func17, Tryz.ntmps17
      go_wp2_with (first
        | (refine box_blk rfl 27 _ rfl _ rfl D rfl ?_; intro g1 w1 hga hba hBa hsa; replace hS : HS NoF w w1 [.blk g1 27 D] := hS.pushBlk hBa hba hga; clear hga hba hBa hsa; have c1 : w1.cell? ⟨g1, 1, none⟩ = _ := (hS.cell 0 rfl 1).trans H1.out; have c2 : w1.cell? ⟨g1, 2, none⟩ = _ := (hS.cell 0 rfl 2).trans H2.out; have cg := hS.oldCell HG.out (fun h => h))
        | fail)
      go_ret
      exact ⟨rfl, hS.bel⟩
    · have f2 : ¬ (q : Int) < 1 := by omega
      have f3 : (64 : Int) < q := by omega
      clear hb a b
      go_enter Tryz.func17, Tryz.ntmps17
      go_wp2_with (first
        | (refine box_blk rfl 27 _ rfl _ rfl D rfl ?_; intro g1 w1 hga hba hBa hsa; replace hS : HS NoF w w1 [.blk g1 27 D] := hS.pushBlk hBa hba hga; clear hga hba hBa hsa; have c1 : w1.cell? ⟨g1, 1, none⟩ = _ := (hS.cell 0 rfl 1).trans H1.out; have c2 : w1.cell? ⟨g1, 2, none⟩ = _ := (hS.cell 0 rfl 2).trans H2.out; have cg := hS.oldCell HG.out (fun h => h))
        | fail)
      go_ret
      exact ⟨rfl, hS.bel⟩
end Go.Proofs.YtlikinglgegclaaGreatDoor
