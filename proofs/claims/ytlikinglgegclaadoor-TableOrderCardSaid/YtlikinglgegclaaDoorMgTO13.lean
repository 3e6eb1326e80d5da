import Derived.LaidEql
import Derived.Test.YtlikinglgegclaaDoorProg
import Derived.Great.BuildSlice
import Derived.Test.YtlikinglgegclaaDoorMgTO0
import Derived.Test.YtlikinglgegclaaDoorMgTO1
import Derived.Test.YtlikinglgegclaaDoorMgTO2
import Derived.Test.YtlikinglgegclaaDoorMgTO3
import Derived.Test.YtlikinglgegclaaDoorMgTO4
import Derived.Test.YtlikinglgegclaaDoorMgTO5
import Derived.Test.YtlikinglgegclaaDoorMgTO6
import Derived.Test.YtlikinglgegclaaDoorMgTO7
import Derived.Test.YtlikinglgegclaaDoorMgTO8
import Derived.Test.YtlikinglgegclaaDoorMgTO9
import Derived.Test.YtlikinglgegclaaDoorMgTO10
import Derived.Test.YtlikinglgegclaaDoorMgTO11
import Derived.Test.YtlikinglgegclaaDoorMgTO12
set_option linter.unusedSimpArgs false
set_option linter.unusedVariables false
open List (getElem_toArray getElem_cons_zero getElem_cons_succ)
/- Errors as pointers of their own: held against each other. -/
namespace Go.Proofs.YtlikinglgegclaaDoor
open Go.RowKit Go.Cour
/-- An error of api's, by where it points. -/
def errV (a : Addr) : Value := .iface 171 (.pointer (some a))
/-- The variables, in the order in which they are numbered from 101 on. -/
def globs : List Nat := [6, 0, 5, 3, 7, 4, 8, 9, 10, 11, 12, 13, 14, 15, 2, 16, 17, 1, 18]
/-- Each variable holds an error of its own. -/
structure Errs (w : World) (P : Nat → Addr) : Prop where
  cell : ∀ i, i < 19 → w.cell? ⟨globs.getD i 0, 0, none⟩ = some (errV (P i))
  inj : ∀ i j, i < 19 → j < 19 → P i = P j → i = j
  froz : ∀ i, i < 19 → ∃ c t, w.heap[(P i).block]? = some (.cells c t (0, 0))
theorem Errs.below {w w' : World} {P : Nat → Addr} (h : Errs w P) (hb : Below w.heap.size w w') : Errs w' P := by
  refine ⟨fun i hi => ?_, h.inj, fun i hi => ?_⟩
  · have hc := h.cell i hi
    exact (hb.cell (lt_of_cell hc)).trans hc
  · obtain ⟨c, t, hf⟩ := h.froz i hi
    exact ⟨c, t, (hb.block _ (Array.getElem?_eq_some_iff.1 hf).1).trans hf⟩
theorem Errs.drewN {w : World} {P : Nat → Addr} (h : Errs w P) (n : Nat) : Errs (w.drewN n) P := ⟨h.cell, h.inj, h.froz⟩
/-- The two that opening tells. -/
def Errs2 (w : World) (P : Nat → Addr) : Prop := w.cell? ⟨5, 0, none⟩ = some (errV (P 2)) ∧ w.cell? ⟨10, 0, none⟩ = some (errV (P 8))
theorem Errs.two {w : World} {P : Nat → Addr} (h : Errs w P) : Errs2 w P := ⟨h.cell 2 (by omega), h.cell 8 (by omega)⟩
theorem Errs2.below {w w' : World} {P : Nat → Addr} (h : Errs2 w P) (hb : Below w.heap.size w w') : Errs2 w' P :=
  ⟨(hb.cell (lt_of_cell h.1)).trans h.1, (hb.cell (lt_of_cell h.2)).trans h.2⟩
theorem undErr : ∃ ms, Tryd.prog.underlying 36 = some (.interface ms) := ⟨_, Tryd.underlying36⟩
theorem undES : Tryd.prog.underlying 171 = some (.pointer 190) := by kernel_rfl
theorem compES : (Tryd.prog.info? 171).map (·.comparable) = some true := by kernel_rfl
theorem sizeES0 : (Tryd.prog.info? 190).map (·.size) = some 1 := by kernel_rfl
/-- Two of them, held against each other. -/
theorem err_eql {w : World} {P : Nat → Addr} (h : Errs w P) (i j : Nat) (hi : i < 19) (hj : j < 19) :
    (binOp .eql 36 (errV (P i)) (errV (P j))).run Tryd.prog w = .ok (.bool (decide (i = j))) w := by
  obtain ⟨ms, hms⟩ := undErr
  obtain ⟨ti, hti, hcmp⟩ := Option.map_eq_some_iff.1 compES
  obtain ⟨tj, htj, htjs⟩ := Option.map_eq_some_iff.1 sizeES0
  by_cases hij : i = j
  · subst hij
    rw [decide_eq_true rfl]
    exact run_eql_iface_ptr_same w (P i) hms undES hti hcmp htj
  · rw [decide_eq_false hij]
    obtain ⟨ci, t1, hci⟩ := h.froz i hi
    obtain ⟨cj, t2, hcj⟩ := h.froz j hj
    exact run_eql_iface_ptr_other w hms undES hti hcmp htj (by rw [htjs]; decide) (fun he => hij (h.inj i j hi hj he)) hci hcj
theorem err_nil_right (a : Addr) (w : World) : (binOp .eql 36 (errV a) .nilIface).run Tryd.prog w = .ok (.bool false) w := by
  obtain ⟨ms, hms⟩ := undErr
  have h : ∀ d : Nat, (Op.equalIn (d + 1) 36 (errV a) .nilIface).run Tryd.prog w = .ok false w := fun d => by simp [Op.equalIn, run_underlying hms, errV]
  simp only [binOp]
  simp [Op.equal, Op.maxDepth, h 9999]
theorem nil_nil (w : World) : (binOp .eql 36 .nilIface .nilIface).run Tryd.prog w = .ok (.bool true) w := by
  obtain ⟨ms, hms⟩ := undErr
  have h : ∀ d : Nat, (Op.equalIn (d + 1) 36 .nilIface .nilIface).run Tryd.prog w = .ok true w := fun d => by simp [Op.equalIn, run_underlying hms]
  simp only [binOp]
  simp [Op.equal, Op.maxDepth, h 9999]
theorem eqGuard_err (op : BinOp) (t : TypeId) (x y : Operand) (a : Addr) (v : Value) : eqGuard op t x y (errV a) v = pure () := by cases op <;> rfl
/-- api's errors, all of them below B. -/
structure ErrsAt (w : World) (P : Nat → Addr) (B : Nat) : Prop where
  errs : Errs w P
  glob : ∀ i, i < 19 → globs.getD i 0 < B
  at_ : ∀ i, i < 19 → (P i).block < B
theorem ErrsAt.of {w : World} {P : Nat → Addr} (h : Errs w P) : ErrsAt w P w.heap.size :=
  ⟨h, fun i hi => lt_of_cell (h.cell i hi), fun i hi => by obtain ⟨c, t, hc⟩ := h.froz i hi; exact (Array.getElem?_eq_some_iff.1 hc).1⟩
theorem ErrsAt.below {w w' : World} {P : Nat → Addr} {B : Nat} (h : ErrsAt w P B) (hb : Below B w w') : ErrsAt w' P B :=
  ⟨⟨fun i hi => (hb.cell (p := ⟨globs.getD i 0, 0, none⟩) (h.glob i hi)).trans (h.errs.cell i hi), h.errs.inj, fun i hi => by
    obtain ⟨c, t, hc⟩ := h.errs.froz i hi
    exact ⟨c, t, (hb.block _ (h.at_ i hi)).trans hc⟩⟩, h.glob, h.at_⟩
end Go.Proofs.YtlikinglgegclaaDoor
/- Errors held against each other; faults as plain data. -/
namespace Go.Proofs.YtlikinglgegclaaDoor
open Go.RowKit Go.Cour
set_option maxHeartbeats 400000 in
theorem alike_calls {w : World} {P : Nat → Addr} (h : Errs w P) (i j : Nat) (hi : i < 19) (hj : j < 19) :
    Calls Tryd.prog 78 #[errV (P i), errV (P j)] w fun e w' => e = .returned (.bool (decide (i = j))) ∧ w' = w := by
  have h1 := err_eql h i j hi hj
  have h2 := err_nil_right (P i) w
  have h3 := err_nil_right (P j) w
  have h4 := fun op t x y v => eqGuard_err op t x y (P i) v
  have h5 := fun op t x y v => eqGuard_err op t x y (P j) v
  generalize errV (P i) = x at *
  generalize errV (P j) = y at *
  go_enter Tryd.func78, Tryd.ntmps78
  go_wp2_with fail
  go_ret
  exact ⟨rfl, rfl⟩
/-- A fault's cells. -/
def faultC (c : Int) (p : Bool) (n : Int) : List Value := [.int .i64 c, .bool p, .int .i64 n]
theorem infoF : (Tryd.prog.info? 59).map (·.size) = some 3 := by kernel_rfl
theorem zeroF : ((Tryd.prog.info? 59).bind (·.zero)).map (·.cells) = some (faultC 0 false 0).toArray := by kernel_rfl
theorem undF : ∃ fs, Tryd.prog.underlying 59 = some (.struct fs) := ⟨_, Tryd.underlying59⟩
theorem oneF (c : Int) (p : Bool) (n : Int) : (faultC c p n).toArray.all (·.oneCell') = true := by simp [faultC, Value.oneCell']
theorem results_str1 {P : Program} {fn : Func} {p : Tmp} {ty : TypeId} (h : fn.results = #[.cell p ty]) (tmps : Array Value) (w : World) (g : Nat) (t : TypeId) (cs : List Value) (fs : _)
    (hp : tmps.getD p undef = .pointer (some ⟨g, 0, none⟩)) (hg : Blk w g t cs)
    (hu : P.underlying ty = some (.struct fs)) (hi : (P.info? ty).map (·.size) = some cs.length) :
    (results fn tmps).run P w = .ok (.agg cs.toArray) w :=
  results_cell_row h tmps w g t cs.toArray (0, 0) _ hp hg hu rfl (by rw [hi]; simp)
set_option maxHeartbeats 400000 in
theorem bare_calls (c : Int) (w : World) : Calls Tryd.prog 45 #[.int .i64 c] w fun e w' => e = .returned (.agg (faultC c false 0).toArray) ∧ Below w.heap.size w w' := by
  obtain ⟨fs, hfs⟩ := undF
  go_enter Tryd.func45, Tryd.ntmps45
  go_wp2_with (first
    | (refine alloc_blk rfl 59 rfl _ rfl (faultC 0 false 0) zeroF ?_; intro g1 w1 hg1 hb1 hB1 hs1)
    | (refine store_blk rfl 59 _ _ rfl g1 (faultC c false 0) rfl rfl 59 _ hb1 3 infoF rfl rfl (oneF _ _ _) ?_)
    | fail)
  refine bodyPost_ret (results_str1 rfl _ _ g1 59 _ fs rfl (hb1.setRow (faultC c false 0)) hfs infoF) rfl ?_
  exact ⟨rfl, below_setRow hB1 (by omega) _⟩
set_option maxHeartbeats 400000 in
theorem sameFault_calls (c d : Int) (w : World) : Calls Tryd.prog 56 #[.agg (faultC c false 0).toArray, .agg (faultC d false 0).toArray] w fun e w' => e = .returned (.bool (c == d)) ∧ Below w.heap.size w w' := by
  cases hcd : (c == d)
  all_goals
    go_enter Tryd.func56, Tryd.ntmps56
    go_wp2_with (first
      | (have hx := hb1; refine box_blk rfl 59 _ rfl _ rfl (faultC d false 0) rfl ?_; clear hx; intro g2 w2 hg2 hb2 hB2 hs2
         have c2 := hb2.cell 0; have d2 := hb2.cell 1; have e2 := hb2.cell 2
         have hb3 := hb1.belowAll hB2
         have c1 := hb3.cell 0; have d1 := hb3.cell 1; have e1 := hb3.cell 2
         simp only [faultC, List.getElem?_cons_zero, List.getElem?_cons_succ] at c1 d1 e1 c2 d2 e2
         have hB := below_then hB1 hB1.size hB2
         clear hg1 hg2 hs1 hs2)
      | (refine box_blk rfl 59 _ rfl _ rfl (faultC c false 0) rfl ?_; intro g1 w1 hg1 hb1 hB1 hs1)
      | fail)
    go_ret
    exact ⟨rfl, hB⟩
end Go.Proofs.YtlikinglgegclaaDoor
/- The numbers of api's errors. -/
namespace Go.Proofs.YtlikinglgegclaaDoor
open Go.RowKit Go.Cour
/-- All of them, in order. -/
def errL (P : Nat → Addr) : List Value := [errV (P 0), errV (P 1), errV (P 2), errV (P 3), errV (P 4), errV (P 5), errV (P 6), errV (P 7), errV (P 8), errV (P 9), errV (P 10), errV (P 11), errV (P 12), errV (P 13), errV (P 14), errV (P 15), errV (P 16), errV (P 17), errV (P 18)]
theorem errL_get (P : Nat → Addr) (i : Nat) (h : i < 19) : (errL P)[i]? = some (errV (P i)) := by
  have h1 : i = 0 ∨ i = 1 ∨ i = 2 ∨ i = 3 ∨ i = 4 ∨ i = 5 ∨ i = 6 ∨ i = 7 ∨ i = 8 ∨ i = 9 ∨ i = 10 ∨ i = 11 ∨ i = 12 ∨ i = 13 ∨ i = 14 ∨ i = 15 ∨ i = 16 ∨ i = 17 ∨ i = 18 := by omega
  rcases h1 with rfl | rfl | rfl | rfl | rfl | rfl | rfl | rfl | rfl | rfl | rfl | rfl | rfl | rfl | rfl | rfl | rfl | rfl | rfl <;> rfl
theorem errL_cells (P : Nat → Addr) : ∀ u ∈ errL P, u.cells = #[u] := by
  intro u hu
  obtain ⟨i, hi⟩ := List.getElem?_of_mem hu
  have hl : i < 19 := by
    have := (List.getElem?_eq_some_iff.1 hi).1
    simpa [errL] using this
  rw [errL_get P i hl] at hi
  injection hi with hi
  subst hi
  rfl
theorem undLErr : Tryd.prog.underlying 133 = some (.slice 36) := by kernel_rfl
theorem sizeErr : (Tryd.prog.info? 36).map (·.size) = some 1 := by kernel_rfl
theorem zeroErr : ((Tryd.prog.info? 36).bind (·.zero)).isSome = true := by kernel_rfl
/-- A slice literal of values of one cell each. -/
theorem literal_vals {P : Program} {ops : Array Oper} {rest : List Oper} {o : Oper} {a : Act} {w : World} {Q : Exit → Act → World → Prop} (hw : Region.wanted o (yielded ops a.tmps) = true) (t e : TypeId) (len : Nat) (parts : Array (Nat × Operand)) (ho : o.op = .buildSlice t len parts)
    (us : List Value) (hparts : (parts.map fun (i, x) => (i, a.eval x)).toList = (us.zipIdx 0).map fun x => (x.2, x.1)) (h1 : ∀ u ∈ us, u.cells = #[u])
    (ht : P.underlying t = some (.slice e)) (hsz : (P.info? e).map (·.size) = some 1) (hz : ((P.info? e).bind (·.zero)).isSome = true) (hlen : len = us.length) (hpos : 0 < len) (hsmall : len ≤ 2 ^ 24)
    (h : ∀ (g : Nat) (w' : World), w.heap.size = g → Blk w' g e us → Below w.heap.size w w' → w'.heap.size = g + 1 → wpList P ops Q rest (a.put o.dst (.slice (some ⟨g, 0, none⟩) len len)) w') :
    wpList P ops Q (o :: rest) a w := by
  have h2 := h w.heap.size _ rfl (Blk.new w e us) ((Below.refl _ _).alloc (Nat.le_refl _) _) (by simp)
  cases hie : P.info? e with
  | none => simp [hie] at hsz
  | some ie =>
    simp only [hie, Option.map_some, Option.some.injEq, Option.bind_some] at hsz hz
    obtain ⟨z, hzz⟩ := Option.isSome_iff_exists.1 hz
    refine wpList_step fun K hK => ?_
    rw [if_pos hw]
    refine wp_buildSlice t e len _ ho us.toArray ie z ht hie hzz (by rw [hsz]; omega) (by rw [hsz]; omega) ?_ (hK _ _ h2)
    rw [hparts, hsz]
    exact Great.fill_flat us _ h1 (by simp [hlen])
set_option maxHeartbeats 1000000 in
set_option maxRecDepth 100000 in
theorem sentinels_calls {w : World} {P : Nat → Addr} (h : Errs w P) :
    Calls Tryd.prog 77 #[] w fun e w' => ∃ g, e = .returned (.slice (some ⟨g, 0, none⟩) 19 19) ∧ w.heap.size ≤ g ∧ Blk w' g 36 (errL P) ∧ Below w.heap.size w w' := by
  have e0 := h.cell 0 (by omega)
  have e1 := h.cell 1 (by omega)
  have e2 := h.cell 2 (by omega)
  have e3 := h.cell 3 (by omega)
  have e4 := h.cell 4 (by omega)
  have e5 := h.cell 5 (by omega)
  have e6 := h.cell 6 (by omega)
  have e7 := h.cell 7 (by omega)
  have e8 := h.cell 8 (by omega)
  have e9 := h.cell 9 (by omega)
  have e10 := h.cell 10 (by omega)
  have e11 := h.cell 11 (by omega)
  have e12 := h.cell 12 (by omega)
  have e13 := h.cell 13 (by omega)
  have e14 := h.cell 14 (by omega)
  have e15 := h.cell 15 (by omega)
  have e16 := h.cell 16 (by omega)
  have e17 := h.cell 17 (by omega)
  have e18 := h.cell 18 (by omega)
  simp only [globs, List.getD_cons_zero, List.getD_cons_succ] at e0 e1 e2 e3 e4 e5 e6 e7 e8 e9 e10 e11 e12 e13 e14 e15 e16 e17 e18
  go_enter Tryd.func77, Tryd.ntmps77
  go_wp2_with (first
    | (refine literal_vals rfl 133 36 19 _ rfl (errL P) (by kernel_rfl) (errL_cells P) undLErr sizeErr zeroErr rfl (by omega) (by omega) ?_; intro g w1 hg hb hB hs)
    | fail)
  go_ret
  exact ⟨g, rfl, by omega, hb, hB⟩
set_option maxHeartbeats 1000000 in
set_option maxRecDepth 100000 in
theorem sentinel_calls {w : World} {P : Nat → Addr} (h : Errs w P) (k : Nat) (hk : k < 19) :
    Calls Tryd.prog 55 #[errV (P k)] w fun e w' => e = .returned (.int .i64 (101 + (k : Int))) ∧ Below w.heap.size w w' := by
  go_enter Tryd.func55, Tryd.ntmps55
  go_wp2_with (first
    | (go_at_call 77; refine (sentinels_calls h).mono ?_; rintro e w1 ⟨g, rfl, hg, hb, hB⟩)
    | fail)
  go_loopg [4] (k + 1) (fun kq v4 wr => ∃ i : Nat, i ≤ k ∧ v4 = .int .i64 i ∧ Hd (kq + i = k + 1) ∧ wr = w1)
  case atStart => exact ⟨0, by omega, rfl, hid (by omega), rfl⟩
  case round =>
    obtain ⟨i, hi, rfl, hq, rfl⟩ := hrel
    have hi19 : (i : Int) < 19 := by omega
    have hc : wr.cell? ⟨g, i, none⟩ = some (errV (P i)) := by rw [hb.cell, errL_get P i (by omega)]
    by_cases hik : k = i
    · subst hik
      have hd : decide (k = k) = true := decide_eq_true rfl
      have hd := hid hd
      go_wp2_with (first
        | (go_at_call 78; refine (alike_calls (h.below hB) k k hk hk).mono ?_; rintro e w2 ⟨he, hw2⟩; rw [hd.out] at he; subst he; subst w2)
        | fail)
      go_ret
      exact ⟨rfl, hB⟩
    · have hd := hid (decide_eq_false hik)
      have hik2 := hid hik
      clear hik
      go_wp2_with (first
        | (go_at_call 78; refine (alike_calls (h.below hB) k i hk (by omega)).mono ?_; rintro e w2 ⟨he, hw2⟩; rw [hd.out] at he; subst he; subst w2)
        | fail)
      go_roundg (gk - 1)
      case measure => have := hq.out; omega
      case rel => exact ⟨i + 1, by have := hik2.out; omega, by go_num, hid (by have := hq.out; omega), rfl⟩
end Go.Proofs.YtlikinglgegclaaDoor
/- Errors as faults. -/
namespace Go.Proofs.YtlikinglgegclaaDoor
open Go.RowKit Go.Cour
theorem assert_err (a : Addr) (w : World) : (Instr.typeAssert (errV a) 36 107 true).run Tryd.prog w = .ok (.tuple #[.pointer none, .bool false]) w := by kernel_rfl
set_option maxHeartbeats 400000 in
set_option maxRecDepth 100000 in
theorem fault_calls {w : World} {P : Nat → Addr} (h : Errs w P) (k : Nat) (hk : k < 19) : Calls Tryd.prog 24 #[errV (P k)] w fun e w' => e = .returned (.agg (faultC (101 + (k : Int)) false 0).toArray) ∧ Below w.heap.size w w' := by
  obtain ⟨fs, hfs⟩ := undF
  have h2 := err_nil_right (P k)
  have h4 := fun op t x y v => eqGuard_err op t x y (P k) v
  have h5 := assert_err (P k)
  obtain ⟨c, hc⟩ : ∃ c : Int, Hd (101 + (k : Int) = c) := ⟨_, ⟨rfl⟩⟩
  rw [hc.out]
  go_enter Tryd.func24, Tryd.ntmps24
  go_wp2_with (first
    | (refine alloc_blk rfl 59 rfl _ rfl (faultC 0 false 0) zeroF ?_; intro g1 w1 hg1 hb1 hB1 hs1; clear hs1)
    | (go_at_call 55; refine (sentinel_calls (h.below hB1) k hk).mono ?_; rintro e w2 ⟨rfl, hB2⟩; rw [hc.out]; have hb2 := hb1.belowAll hB2)
    | (go_at_call 45; refine (bare_calls _ _).mono ?_; rintro e w3 ⟨rfl, hB3⟩; have hb3 := hb2.belowAll hB3)
    | (refine store_blk rfl 59 _ _ rfl g1 (faultC c false 0) rfl rfl 59 _ hb3 3 infoF rfl rfl (oneF _ _ _) ?_)
    | fail)
  refine bodyPost_ret (results_str1 rfl _ _ g1 59 _ fs rfl (hb3.setRow (faultC c false 0)) hfs infoF) rfl ?_
  exact ⟨rfl, below_setRow (below_then (below_then hB1 hB1.size hB2) (by have := hB1.size; have := hB2.size; omega) hB3) (by omega) _⟩
end Go.Proofs.YtlikinglgegclaaDoor
/- Same: an error, held against a fault. -/
namespace Go.Proofs.YtlikinglgegclaaDoor
open Go.RowKit Go.Cour
set_option maxHeartbeats 400000 in
set_option maxRecDepth 100000 in
theorem same_err_calls (c : Int) {w : World} {P : Nat → Addr} (h : Errs w P) (k : Nat) (hk : k < 19) : Calls Tryd.prog 25 #[errV (P k), .agg (faultC c false 0).toArray] w fun e w' => e = .returned (.bool (101 + (k : Int) == c)) ∧ Below w.heap.size w w' := by
  obtain ⟨fs, hfs⟩ := undF
  go_enter Tryd.func25, Tryd.ntmps25
  go_wp2_with (first
    | (refine box_blk rfl 59 _ rfl _ rfl (faultC c false 0) rfl ?_; intro g4 w1 hg4 hb4 hB1 hs1; clear hg4 hs1)
    | fail)
  refine wp_region_facts (ix := [[0], [1], [2], [3], [4]]) (S := fun w' => Blk w' g4 59 (faultC c false 0) ∧ Below w.heap.size w w')
    (R := fun w1 w2 => Below w1.heap.size w1 w2)
    (p := fun jO vs w' => match jO with
      | 0 => vs 0 = errV (P k)
      | 1 => vs 1 = .agg (faultC (101 + (k : Int)) false 0).toArray
      | 2 => vs 2 = .agg (faultC c false 0).toArray
      | 3 => vs 3 = .bool (101 + (k : Int) == c)
      | 4 => vs 4 = .bool (101 + (k : Int) == c)
      | _ => True)
    (by kernel_rfl) (by kernel_rfl) ?_ ?_ ?_ ?_
  · exact ⟨hb4.drew, below_drewN hB1 1⟩
  · intro jO vs w1 w2 hR h
    match jO with
    | 0 | 1 | 2 | 3 | 4 => exact h
    | nO + 5 => trivial
  · refine ⟨?_, ?_, ?_, ?_, ?_, trivial⟩
    · (intro vs w2 hS hd; simp [Region.binds, Fact.at] at hd; simp only [fill, List.take_succ_cons, List.take_zero, Act.put, List.setIfInBounds_toArray, List.set_cons_zero, List.set_cons_succ, Nat.reduceAdd])
      try simp only [hd]
      go_wp2_with fail
      exact ⟨rfl, rfl, hS, Below.refl _ _⟩
    · (intro vs w2 hS hd; simp [Region.binds, Fact.at] at hd; simp only [fill, List.take_succ_cons, List.take_zero, Act.put, List.setIfInBounds_toArray, List.set_cons_zero, List.set_cons_succ, Nat.reduceAdd])
      simp only [hd]
      go_wp2_with (first
        | (go_at_call 24; refine (fault_calls (h.below hS.2) k hk).mono ?_; rintro e w3 ⟨rfl, hB⟩)
        | fail)
      exact ⟨rfl, rfl, ⟨hS.1.belowAll hB, below_then hS.2 hS.2.size hB⟩, hB⟩
    · (intro vs w2 hS hd; simp [Region.binds, Fact.at] at hd; simp only [fill, List.take_succ_cons, List.take_zero, Act.put, List.setIfInBounds_toArray, List.set_cons_zero, List.set_cons_succ, Nat.reduceAdd])
      try simp only [hd]
      go_wp2_with (first
        | (refine load_str rfl 59 _ rfl g4 rfl 59 _ hS.1 fs hfs infoF ?_)
        | fail)
      exact ⟨rfl, rfl, hS, Below.refl _ _⟩
    · (intro vs w2 hS hd; simp [Region.binds, Fact.at] at hd; simp only [fill, List.take_succ_cons, List.take_zero, Act.put, List.setIfInBounds_toArray, List.set_cons_zero, List.set_cons_succ, Nat.reduceAdd])
      simp only [hd]
      go_wp2_with (first
        | (go_at_call 56; refine (sameFault_calls (101 + (k : Int)) c _).mono ?_; rintro e w3 ⟨rfl, hB⟩)
        | fail)
      exact ⟨rfl, rfl, ⟨hS.1.belowAll hB, below_then hS.2 hS.2.size hB⟩, hB⟩
    · (intro vs w2 hS hd; simp [Region.binds, Fact.at] at hd; simp only [fill, List.take_succ_cons, List.take_zero, Act.put, List.setIfInBounds_toArray, List.set_cons_zero, List.set_cons_succ, Nat.reduceAdd])
      simp only [hd]
      go_wp2_with fail
      exact ⟨rfl, rfl, hS, Below.refl _ _⟩
  · intro vs wq hf hS
    have h4 : vs 4 = .bool (101 + (k : Int) == c) := hf 4 (by simp)
    simp only [fill, Act.put, List.setIfInBounds_toArray, List.set_cons_zero, List.set_cons_succ, Nat.reduceAdd]
    clear hf
    go_wp2_with fail
    go_ret
    exact ⟨congrArg Ending.returned h4, hS.2⟩
end Go.Proofs.YtlikinglgegclaaDoor
/- Is: an error, held against a number. -/
namespace Go.Proofs.YtlikinglgegclaaDoor
open Go.RowKit Go.Cour
set_option maxHeartbeats 400000 in
theorem is_err_calls (c : Int) {w : World} {P : Nat → Addr} (h : Errs w P) (k : Nat) (hk : k < 19) : Calls Tryd.prog 19 #[errV (P k), .int .i64 c] w fun e w' => e = .returned (.bool (101 + (k : Int) == c)) ∧ Below w.heap.size w w' := by
  go_enter Tryd.func19, Tryd.ntmps19
  go_wp2_with (first
    | (go_at_call 45; refine (bare_calls _ _).mono ?_; rintro e w1 ⟨rfl, hB1⟩)
    | (go_at_call 25; refine (same_err_calls c (h.below hB1) k hk).mono ?_; rintro e w2 ⟨rfl, hB2⟩)
    | fail)
  go_ret
  exact ⟨rfl, below_then hB1 hB1.size hB2⟩
end Go.Proofs.YtlikinglgegclaaDoor
