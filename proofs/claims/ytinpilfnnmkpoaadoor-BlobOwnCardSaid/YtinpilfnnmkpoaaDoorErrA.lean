/- Errors as pointers of their own: held against each other; faults as plain data. -/
import Derived.Test.YtinpilfnnmkpoaaDoorArr
import Derived.LaidEql
import Derived.Test.YtinpilfnnmkpoaaDoorProg
namespace Go.Proofs.YtinpilfnnmkpoaaDoor
open Go.RowKit Go.Cour
/-- An error of api's, by where it points. -/
def errV (a : Addr) : Value := .iface 101 (.pointer (some a))
/-- The variables, in the order in which they are numbered from 101 on. -/
def globs : List Nat := [7, 0, 8, 9, 10, 11, 3, 12, 13, 14, 15, 16, 17, 4, 1, 6, 5, 2, 18]
/-- Each variable holds an error of its own. -/
structure Errs (w : World) (P : Nat → Addr) : Prop where
  cell : ∀ i, i < 19 → w.cell? ⟨globs.getD i 0, 0, none⟩ = some (errV (P i))
  inj : ∀ i j, i < 19 → j < 19 → P i = P j → i = j
  froz : ∀ i, i < 19 → ∃ c t, w.heap[(P i).block]? = some (.cells c t (0, 0))
theorem Errs.below {w w' : World} {P : Nat → Addr} (h : Errs w P) (hb : Below w.heap.size w w') : Errs w' P := by
  refine ⟨fun i hi => ?_, h.inj, fun i hi => ?_⟩
  · have hc := h.cell i hi
    exact (hb.cell (lt_of_cell hc)).trans hc
  · obtain ⟨c, t, hf⟩ := h.froz i hi
    exact ⟨c, t, (hb.block _ (Array.getElem?_eq_some_iff.1 hf).1).trans hf⟩
theorem Errs.drewN {w : World} {P : Nat → Addr} (h : Errs w P) (n : Nat) : Errs (w.drewN n) P := ⟨h.cell, h.inj, h.froz⟩
/-- The two that opening tells. -/
def Errs2 (w : World) (P : Nat → Addr) : Prop := w.cell? ⟨8, 0, none⟩ = some (errV (P 2)) ∧ w.cell? ⟨13, 0, none⟩ = some (errV (P 8))
theorem Errs.two {w : World} {P : Nat → Addr} (h : Errs w P) : Errs2 w P := ⟨h.cell 2 (by omega), h.cell 8 (by omega)⟩
theorem Errs2.below {w w' : World} {P : Nat → Addr} (h : Errs2 w P) (hb : Below w.heap.size w w') : Errs2 w' P :=
  ⟨(hb.cell (lt_of_cell h.1)).trans h.1, (hb.cell (lt_of_cell h.2)).trans h.2⟩
theorem undErr : ∃ ms, Tryd.prog.underlying 27 = some (.interface ms) := ⟨_, Tryd.underlying27⟩
theorem undES : Tryd.prog.underlying 101 = some (.pointer 117) := by kernel_rfl
theorem compES : (Tryd.prog.info? 101).map (·.comparable) = some true := by kernel_rfl
theorem sizeES0 : (Tryd.prog.info? 117).map (·.size) = some 1 := by kernel_rfl
/-- Two of them, held against each other. -/
theorem err_eql {w : World} {P : Nat → Addr} (h : Errs w P) (i j : Nat) (hi : i < 19) (hj : j < 19) :
    (binOp .eql 27 (errV (P i)) (errV (P j))).run Tryd.prog w = .ok (.bool (decide (i = j))) w := by
  obtain ⟨ms, hms⟩ := undErr
  obtain ⟨ti, hti, hcmp⟩ := Option.map_eq_some_iff.1 compES
  obtain ⟨tj, htj, htjs⟩ := Option.map_eq_some_iff.1 sizeES0
  by_cases hij : i = j
  · subst hij
    rw [decide_eq_true rfl]
    exact run_eql_iface_ptr_same w (P i) hms undES hti hcmp htj
  · rw [decide_eq_false hij]
    obtain ⟨ci, t1, hci⟩ := h.froz i hi
    obtain ⟨cj, t2, hcj⟩ := h.froz j hj
    exact run_eql_iface_ptr_other w hms undES hti hcmp htj (by rw [htjs]; decide) (fun he => hij (h.inj i j hi hj he)) hci hcj
theorem err_nil_right (a : Addr) (w : World) : (binOp .eql 27 (errV a) .nilIface).run Tryd.prog w = .ok (.bool false) w := by
  obtain ⟨ms, hms⟩ := undErr
  have h : ∀ d : Nat, (Op.equalIn (d + 1) 27 (errV a) .nilIface).run Tryd.prog w = .ok false w := fun d => by simp [Op.equalIn, run_underlying hms, errV]
  simp only [binOp]
  simp [Op.equal, Op.maxDepth, h 9999]
theorem nil_nil (w : World) : (binOp .eql 27 .nilIface .nilIface).run Tryd.prog w = .ok (.bool true) w := by
  obtain ⟨ms, hms⟩ := undErr
  have h : ∀ d : Nat, (Op.equalIn (d + 1) 27 .nilIface .nilIface).run Tryd.prog w = .ok true w := fun d => by simp [Op.equalIn, run_underlying hms]
  simp only [binOp]
  simp [Op.equal, Op.maxDepth, h 9999]
theorem eqGuard_err (op : BinOp) (t : TypeId) (x y : Operand) (a : Addr) (v : Value) : eqGuard op t x y (errV a) v = pure () := by cases op <;> rfl
set_option maxHeartbeats 400000 in
theorem alike_calls {w : World} {P : Nat → Addr} (h : Errs w P) (i j : Nat) (hi : i < 19) (hj : j < 19) :
    Calls Tryd.prog 51 #[errV (P i), errV (P j)] w fun e w' => e = .returned (.bool (decide (i = j))) ∧ w' = w := by
  have h1 := err_eql h i j hi hj
  have h2 := err_nil_right (P i) w
  have h3 := err_nil_right (P j) w
  have h4 := fun op t x y v => eqGuard_err op t x y (P i) v
  have h5 := fun op t x y v => eqGuard_err op t x y (P j) v
  generalize errV (P i) = x at *
  generalize errV (P j) = y at *
  go_enter Tryd.func51, Tryd.ntmps51
  go_wp2_with fail
  go_ret
  exact ⟨rfl, rfl⟩
/-- A fault's cells. -/
def faultC (c : Int) (p : Bool) (n : Int) : List Value := [.int .i64 c, .bool p, .int .i64 n]
theorem infoF : (Tryd.prog.info? 66).map (·.size) = some 3 := by kernel_rfl
theorem zeroF : ((Tryd.prog.info? 66).bind (·.zero)).map (·.cells) = some (faultC 0 false 0).toArray := by kernel_rfl
theorem undF : ∃ fs, Tryd.prog.underlying 66 = some (.struct fs) := ⟨_, Tryd.underlying66⟩
theorem oneF (c : Int) (p : Bool) (n : Int) : (faultC c p n).toArray.all (·.oneCell') = true := by simp [faultC, Value.oneCell']
theorem results_str1 {P : Program} {fn : Func} {p : Tmp} {ty : TypeId} (h : fn.results = #[.cell p ty]) (tmps : Array Value) (w : World) (g : Nat) (t : TypeId) (cs : List Value) (fs : _)
    (hp : tmps.getD p undef = .pointer (some ⟨g, 0, none⟩)) (hg : Blk w g t cs)
    (hu : P.underlying ty = some (.struct fs)) (hi : (P.info? ty).map (·.size) = some cs.length) :
    (results fn tmps).run P w = .ok (.agg cs.toArray) w :=
  results_cell_row h tmps w g t cs.toArray (0, 0) _ hp hg hu rfl (by rw [hi]; simp)
set_option maxHeartbeats 400000 in
theorem none_calls (w : World) : Calls Tryd.prog 46 #[] w fun e w' => e = .returned (.agg (faultC 0 false 0).toArray) ∧ Below w.heap.size w w' := by
  obtain ⟨fs, hfs⟩ := undF
  go_enter Tryd.func46, Tryd.ntmps46
  go_wp2_with (first
    | (refine alloc_blk rfl 66 rfl _ rfl (faultC 0 false 0) zeroF ?_; intro g1 w1 hg1 hb1 hB1 hs1)
    | (refine store_blk rfl 66 _ _ rfl g1 (faultC 0 false 0) rfl rfl 66 _ hb1 3 infoF rfl rfl (oneF _ _ _) ?_)
    | fail)
  refine bodyPost_ret (results_str1 rfl _ _ g1 66 _ fs rfl (hb1.setRow (faultC 0 false 0)) hfs infoF) rfl ?_
  exact ⟨rfl, below_setRow hB1 (by omega) _⟩
set_option maxHeartbeats 400000 in
theorem bare_calls (c : Int) (w : World) : Calls Tryd.prog 29 #[.int .i64 c] w fun e w' => e = .returned (.agg (faultC c false 0).toArray) ∧ Below w.heap.size w w' := by
  obtain ⟨fs, hfs⟩ := undF
  go_enter Tryd.func29, Tryd.ntmps29
  go_wp2_with (first
    | (refine alloc_blk rfl 66 rfl _ rfl (faultC 0 false 0) zeroF ?_; intro g1 w1 hg1 hb1 hB1 hs1)
    | (refine store_blk rfl 66 _ _ rfl g1 (faultC c false 0) rfl rfl 66 _ hb1 3 infoF rfl rfl (oneF _ _ _) ?_)
    | fail)
  refine bodyPost_ret (results_str1 rfl _ _ g1 66 _ fs rfl (hb1.setRow (faultC c false 0)) hfs infoF) rfl ?_
  exact ⟨rfl, below_setRow hB1 (by omega) _⟩
set_option maxHeartbeats 400000 in
theorem sameFault_calls (c d : Int) (w : World) : Calls Tryd.prog 38 #[.agg (faultC c false 0).toArray, .agg (faultC d false 0).toArray] w fun e w' => e = .returned (.bool (c == d)) ∧ Below w.heap.size w w' := by
  cases hcd : (c == d)
  all_goals
    go_enter Tryd.func38, Tryd.ntmps38
    go_wp2_with (first
      | (have hx := hb1; refine box_blk rfl 66 _ rfl _ rfl (faultC d false 0) rfl ?_; clear hx; intro g2 w2 hg2 hb2 hB2 hs2
         have c2 := hb2.cell 0; have d2 := hb2.cell 1; have e2 := hb2.cell 2
         have hb3 := hb1.belowAll hB2
         have c1 := hb3.cell 0; have d1 := hb3.cell 1; have e1 := hb3.cell 2
         simp only [faultC, List.getElem?_cons_zero, List.getElem?_cons_succ] at c1 d1 e1 c2 d2 e2
         have hB := below_then hB1 hB1.size hB2
         clear hg1 hg2 hs1 hs2)
      | (refine box_blk rfl 66 _ rfl _ rfl (faultC c false 0) rfl ?_; intro g1 w1 hg1 hb1 hB1 hs1)
      | fail)
    go_ret
    exact ⟨rfl, hB⟩
end Go.Proofs.YtinpilfnnmkpoaaDoor
