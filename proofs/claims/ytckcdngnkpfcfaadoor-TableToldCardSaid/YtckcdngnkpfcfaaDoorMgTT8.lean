import Derived.Test.YtckcdngnkpfcfaaDoorMgTT0
import Derived.Test.YtckcdngnkpfcfaaDoorMgTT1
import Derived.Test.YtckcdngnkpfcfaaDoorMgTT2
import Derived.Test.YtckcdngnkpfcfaaDoorMgTT3
import Derived.Test.YtckcdngnkpfcfaaDoorMgTT4
import Derived.Test.YtckcdngnkpfcfaaDoorMgTT5
import Derived.Test.YtckcdngnkpfcfaaDoorMgTT6
import Derived.Test.YtckcdngnkpfcfaaDoorMgTT7
set_option linter.unusedSimpArgs false
set_option linter.unusedVariables false
/- The law TableTold. -/
namespace Go.Proofs.YtckcdngnkpfcfaaDoor
open Go.RowKit Go.Cour
theorem bin_to {P : Program} {ops : Array Oper} {rest : List Oper} {o : Oper} {a : Act} {w : World} {Q : Exit → Act → World → Prop} (hw : Region.wanted o (yielded ops a.tmps) = true) (op : BinOp) (t t' : TypeId) (x y : Operand) (ho : o.op = .binOp op t x y t') (xs ys : Array Value)
    (hx : a.eval x = .agg xs) (hy : a.eval y = .agg ys) (hm : P.eqGuardType P.depth t = false) (r : Value) (hr : ∀ w, (binOp op t (.agg xs) (.agg ys)).run P w = .ok r w) (d : Option Tmp) (hd : o.dst = d) (h : wpList P ops Q rest (a.put d r) w) : wpList P ops Q (o :: rest) a w := by
  subst hd
  refine wpList_step fun K hK => ?_
  rw [if_pos hw]
  unfold Oper.wp execOp
  have hg := run_eqGuard_agg (P := P) w op t x y xs ys hm
  simp only [ho, hx, hy]
  simp [hg, hr]
  exact hK _ _ h
theorem guardMove : Tryd.prog.eqGuardType Tryd.prog.depth 72 = false := by kernel_rfl
theorem guardDesc : Tryd.prog.eqGuardType Tryd.prog.depth 32 = false := by kernel_rfl
theorem fieldsMove : (Tryd.prog.fieldsOf 72).toList.map (fun f => (f.name != "_", f.type, f.offset)) = [(true, 3, 0), (true, 3, 1), (true, 3, 2), (true, 3, 3), (true, 3, 4), (true, 3, 5)] := by kernel_rfl
theorem undMoveF : Tryd.prog.underlying 72 = some (.struct (Tryd.prog.fieldsOf 72)) := by kernel_rfl
theorem undIntM : Tryd.prog.underlying 3 = some (.int .i64) := by kernel_rfl
theorem move_neq (a b c d e f : Int) (w : World) : (binOp .neq 72 (.agg (moveC a b c d e f).toArray) (.agg (moveC a b c d e f).toArray)).run Tryd.prog w = .ok (.bool false) w := by
  have pi : ∀ (o : Nat) (x : Int), (moveC a b c d e f).toArray[o]? = some (.int .i64 x) → (part 3 (moveC a b c d e f).toArray o).run Tryd.prog w = .ok (.int .i64 x) w := fun o x h => part_int w 3 .i64 undIntM _ o _ h
  have ei : ∀ x : Int, (Op.equalIn 9999 3 (.int .i64 x) (.int .i64 x)).run Tryd.prog w = .ok true w := fun x => by rw [run_equalIn_int w 9998 3 .i64 .i64 x x undIntM]; simp
  have e : (Op.equalIn 10000 72 (.agg (moveC a b c d e f).toArray) (.agg (moveC a b c d e f).toArray)).run Tryd.prog w = .ok true w := by
    rw [run_equalIn_agg w 9999 72 _ _ undMoveF (by kernel_rfl)]
    have hf := fieldsMove
    generalize (Tryd.prog.fieldsOf 72).toList = fs at hf
    obtain ⟨f0, fs, rfl, h0, hf⟩ := List.map_eq_cons_iff.1 hf
    obtain ⟨f1, fs, rfl, h1, hf⟩ := List.map_eq_cons_iff.1 hf
    obtain ⟨f2, fs, rfl, h2, hf⟩ := List.map_eq_cons_iff.1 hf
    obtain ⟨f3, fs, rfl, h3, hf⟩ := List.map_eq_cons_iff.1 hf
    obtain ⟨f4, fs, rfl, h4, hf⟩ := List.map_eq_cons_iff.1 hf
    obtain ⟨f5, fs, rfl, h5, hf⟩ := List.map_eq_cons_iff.1 hf
    obtain rfl := List.map_eq_nil_iff.1 hf
    have a0 := pi 0 a rfl
    have a1 := pi 1 b rfl
    have a2 := pi 2 c rfl
    have a3 := pi 3 d rfl
    have a4 := pi 4 e rfl
    have a5 := pi 5 f rfl
    rw [eqF_cons w _ _ _ _ _ true _ _ h0 _ _ a0 a0 (ei a), if_pos rfl, eqF_cons w _ _ _ _ _ true _ _ h1 _ _ a1 a1 (ei b), if_pos rfl, eqF_cons w _ _ _ _ _ true _ _ h2 _ _ a2 a2 (ei c), if_pos rfl,
      eqF_cons w _ _ _ _ _ true _ _ h3 _ _ a3 a3 (ei d), if_pos rfl, eqF_cons w _ _ _ _ _ true _ _ h4 _ _ a4 a4 (ei e), if_pos rfl, eqF_cons w _ _ _ _ _ true _ _ h5 _ _ a5 a5 (ei f), if_pos rfl]
    simp [Op.eqFields]
  rw [run_neq_struct, e]; rfl
theorem numN_calls (a b : Int) (w : World) (hb : 0 < b) (hb2 : b < 4611686018427387904) : Calls Tryd.prog 8 #[.int .i64 a, .int .i64 b] w fun e w' => ∃ k : Nat, (k : Int) < b ∧ e = .returned (.int .i64 (k : Int)) ∧ w = w' :=
  (number_calls a b w hb hb2).mono fun e w' ⟨h1, h2⟩ => ⟨(a % b).toNat, by have := Int.emod_nonneg a (show b ≠ 0 by omega); have := Int.emod_lt_of_pos a hb; omega, by rw [h1]; have := Int.emod_nonneg a (show b ≠ 0 by omega); congr 2; omega, h2.symm⟩
theorem zeroTab : ((Tryd.prog.info? 79).bind (·.zero)).map (·.cells) = some (tabC (.slice none 0 0) 0).toArray := by kernel_rfl
theorem builtRow3 (a b c : Int) : Tryd.prog.built 70 [(0, .int .i64 a), (1, .int .i64 b), (2, .int .i64 c)] = some (endC a b c (dscZ 0 0 0) (.slice none 0 0)).toArray := by kernel_rfl
set_option maxHeartbeats 2000000 in
set_option maxRecDepth 100000 in
theorem first26_calls (w : World) : Calls Tryd.prog 28 #[] w fun e w' => e = .returned (.bool true) ∧ Below w.heap.size w w' := by
  have hS := HS.start NoF w
  have hneq := nil_nil
  have H1 := hid (endC_one 1 1 1 (dscZ 0 0 0) (.slice none 0 0) (descC_one _ _ _ _ _ _) rfl)
  have HL := hid (endC_length 1 1 1 (dscZ 0 0 0) (.slice none 0 0) (dscZ_length 0 0 0))
  have H0 : Hd ((endC 1 1 1 (dscZ 0 0 0) (.slice none 0 0))[0]? = some (.int .i64 1)) := hid rfl
  have H102 : Hd ((endC 1 1 1 (dscZ 0 0 0) (.slice none 0 0))[102]? = some (.slice none 0 0)) := hid (by simp [endC, rowC, dscZ, descC])
  have HB := hid (builtRow3 1 1 1)
  generalize endC 1 1 1 (dscZ 0 0 0) (.slice none 0 0) = R at *
  go_enter Tryd.func28, Tryd.ntmps28
  go_wp2_with (first
    | (refine alloc_blk rfl 79 rfl _ rfl (tabC (.slice none 0 0) 0) zeroTab ?_; intro g1 w1 hga hba hBa hsa; replace hS : HS NoF w w1 [.blk g1 79 (tabC (.slice none 0 0) 0)] := hS.pushBlk hBa hba hga; clear hga hba hBa hsa)
    | (refine build_to rfl 70 _ rfl R.toArray (by rw [Array.toList_map]; exact HB.out) ?_)
    | fail)
  refine (next_calls 0 g1 _ (hS.cell 0 rfl 1) (by omega)).mono ?_
  rintro e w2 ⟨rfl, hw2⟩
  subst hw2
  go_wp2_with (first
    | (refine build_to rfl 70 _ rfl R.toArray (by rw [Array.toList_map]; exact HB.out) ?_)
    | (go_at_call 33; refine (add_calls R [] [] 1 0 g1 none none 0 0 0 0 _ (hS.blk 0 rfl) (OwnA.nil _ _ _) (fun h => by simp [Value.ownBlock] at h) (by omega) rfl (by omega) HL.out H1.out H0.out H102.out rfl (fun _ => rfl) (.inl rfl) (fun _ h => by cases h) (by simp)).mono ?_; rintro e w3 ⟨rfl, A', c', v, hv1, hq⟩
       replace hS : HS NoF w w3 [.blk g1 79 (tabC (.slice A' (0 + 1) c') 1), .oa 70 108 (.slice A' (0 + 1) c') ([] ++ [R.set 102 v]), .os 5 v (ints .u8 [])] := HS.call (A := [.blk g1 79 (tabC (.slice none 0 0) 0)]) (L := []) hS hq (fun k hk => hk.elim (fun h => ⟨_, List.mem_cons_self .., h⟩) (fun h => by simp [Value.ownBlock] at h)))
    | fail)
  refine (next_calls 1 g1 _ (hS.cell 0 rfl 1) (by omega)).mono ?_
  rintro e w4 ⟨rfl, hw4⟩
  subst hw4
  go_wp2_with fail
  go_ret
  exact ⟨rfl, hS.bel⟩
theorem rowC_get (id kind state : Int) (D : List Value) (blob down : Value) (u0 u1 u2 u3 : Int) (h : D.length = 99) (R : List Value) (hR : rowC id kind state D blob [.int .i64 u0, .int .i64 u1, .int .i64 u2, .int .i64 u3] down = R) :
    R.length = 108 ∧ R[0]? = some (.int .i64 id) ∧ R[1]? = some (.int .i64 kind) ∧ R[2]? = some (.int .i64 state) ∧ R[3]? = D[0]? ∧ R[4]? = D[1]? ∧ R[5]? = D[2]? ∧ R[102]? = some blob ∧ R[104]? = some (.int .i64 u1) ∧ R[107]? = some down := by
  subst hR
  unfold rowC
  refine ⟨by simp [h], rfl, rfl, rfl, ?_, ?_, ?_, ?_, ?_, ?_⟩ <;> simp [List.getElem?_append, h]
theorem rowC_set104 (id kind state : Int) (D : List Value) (blob down : Value) (u0 u1 u2 u3 v : Int) (h : D.length = 99) : (rowC id kind state D blob [.int .i64 u0, .int .i64 u1, .int .i64 u2, .int .i64 u3] down).set 104 (.int .i64 v) = rowC id kind state D blob [.int .i64 u0, .int .i64 v, .int .i64 u2, .int .i64 u3] down := by
  simp [rowC, List.set_append, h]
theorem rowC_D (id kind state : Int) (D : List Value) (blob down : Value) (up : List Value) (h : D.length = 99) : ∀ m v, D[m]? = some v → (rowC id kind state D blob up down)[3 + m]? = some v := fun m v hm => by
  have hlt := (List.getElem?_eq_some_iff.1 hm).1
  unfold rowC
  rw [List.append_assoc, List.append_assoc, List.append_assoc, List.getElem?_append_right (by simp), show 3 + m - [Value.int .i64 id, .int .i64 kind, .int .i64 state].length = m by simp, List.getElem?_append_left hlt]
  exact hm
theorem downC_get (D : List Value) (l th wh : Value) (held : Bool) (tr wt : Int) (h : D.length = 99) : (downC D l held th wh tr wt)[101]? = some th ∧ (downC D l held th wh tr wt)[102]? = some wh := by
  unfold downC
  constructor <;> simp [List.getElem?_append, h]
theorem many10 (m : Nat) : max (Int.tdiv ((m : Int) + 9) 10) 1 = countI m 10 := by
  rw [Int.tdiv_eq_ediv_of_nonneg (by omega)]
  unfold countI countD
  rw [show max (m : Int) 0 = m by omega, show max (10 : Int) 1 = 10 by omega]
  split <;> omega
theorem many_or (m N : Nat) (h : countI m 10 = (N : Int)) : ((m : Int) + 9) / 10 = (N : Int) ∨ ((m : Int) + 9) / 10 = 0 ∧ N = 1 := by
  have h1 := many10 m
  rw [Int.tdiv_eq_ediv_of_nonneg (by omega)] at h1
  omega
theorem blobOf_len {ts : List (List Int)} (h6 : ts.length ≤ 600) (h : ∀ X ∈ ts, X.length ≤ 80) (h1 : 1 ≤ ts.length) : 0 < (blobOf ts).length ∧ (blobOf ts).length ≤ 100000 := by
  have e1 : ∀ l : List (List Int), (l.map leafOf).flatten.length = 32 * l.length := fun l => by
    induction l with
    | nil => simp
    | cons x l ih => simp only [List.map_cons, List.flatten_cons, List.length_append, leafOf_length, ih, List.length_cons]; omega
  have e2 := flat_le h
  unfold blobOf hashesOf
  rw [List.length_append, e1]
  have e3 := Nat.mul_le_mul_left 80 h6
  omega
theorem builtRowU (id m q : Int) (key root blob : List Int) (hk : key.length = 32) (hr : root.length = 32) (hb : blob.length = 32) (A : Option Addr) (n c : Nat) : Tryd.prog.built 70 [(0, .int .i64 4), (1, .int .i64 1), (2, .int .i64 2), (3, .agg (descC id m q key root blob).toArray), (4, .slice A n c)] = some (rowC 4 1 2 (descC id m q key root blob) (.slice A n c) [.int .i64 0, .int .i64 0, .int .i64 0, .int .i64 0] (.pointer none)).toArray := by
  match key, hk with
  | [x0, x1, x2, x3, x4, x5, x6, x7, x8, x9, x10, x11, x12, x13, x14, x15, x16, x17, x18, x19, x20, x21, x22, x23, x24, x25, x26, x27, x28, x29, x30, x31], _ =>
    match root, hr with
    | [y0, y1, y2, y3, y4, y5, y6, y7, y8, y9, y10, y11, y12, y13, y14, y15, y16, y17, y18, y19, y20, y21, y22, y23, y24, y25, y26, y27, y28, y29, y30, y31], _ =>
      match blob, hb with
      | [z0, z1, z2, z3, z4, z5, z6, z7, z8, z9, z10, z11, z12, z13, z14, z15, z16, z17, z18, z19, z20, z21, z22, z23, z24, z25, z26, z27, z28, z29, z30, z31], _ => change _ = _; kernel_rfl
theorem builtRowD (id m q : Int) (key root blob : List Int) (hk : key.length = 32) (hr : root.length = 32) (hb : blob.length = 32) (g : Nat) : Tryd.prog.built 70 [(0, .int .i64 4), (1, .int .i64 2), (2, .int .i64 2), (3, .agg (descC id m q key root blob).toArray), (6, .pointer (some ⟨g, 0, none⟩))] = some (rowC 4 2 2 (descC id m q key root blob) (.slice none 0 0) [.int .i64 0, .int .i64 0, .int .i64 0, .int .i64 0] (.pointer (some ⟨g, 0, none⟩))).toArray := by
  match key, hk with
  | [x0, x1, x2, x3, x4, x5, x6, x7, x8, x9, x10, x11, x12, x13, x14, x15, x16, x17, x18, x19, x20, x21, x22, x23, x24, x25, x26, x27, x28, x29, x30, x31], _ =>
    match root, hr with
    | [y0, y1, y2, y3, y4, y5, y6, y7, y8, y9, y10, y11, y12, y13, y14, y15, y16, y17, y18, y19, y20, y21, y22, y23, y24, y25, y26, y27, y28, y29, y30, y31], _ =>
      match blob, hb with
      | [z0, z1, z2, z3, z4, z5, z6, z7, z8, z9, z10, z11, z12, z13, z14, z15, z16, z17, z18, z19, z20, z21, z22, z23, z24, z25, z26, z27, z28, z29, z30, z31], _ => change _ = _; kernel_rfl
set_option maxHeartbeats 8000000 in
set_option maxRecDepth 100000 in
theorem tableTold_up (n size at_ : Int) (w : World) :
    Calls Tryd.prog 5 #[.int .i64 n, .int .i64 size, .int .i64 at_, .bool false] w fun e w' => e = .returned (.bool true) ∧ Below w.heap.size w w' := by
  have hS := HS.start NoF w
  have HEQ := hid fun m : Nat => desc_neq 9 m 10 (List.replicate 32 0) (List.replicate 32 0) (List.replicate 32 0) (by simp) (by simp) (by simp)
  go_enter Tryd.func5, Tryd.ntmps5
  go_wp2_with (first
    | (go_at_call 28; refine (first26_calls _).mono ?_; rintro e w1 ⟨rfl, hB⟩; replace hS := hS.below hB; clear hB)
    | fail)
  refine (numN_calls size 100 _ (by omega) (by omega)).mono ?_
  rintro e w2 ⟨m, hm, rfl, hw2⟩
  subst hw2
  have hm1 : m < 100 := by omega
  clear hm
  obtain ⟨N, hN⟩ : ∃ N : Nat, Hd (countI m 10 = (N : Int)) := ⟨(countI m 10).toNat, hid (by have := (countI_bounds m 10).1; omega)⟩
  have hNb : 1 ≤ N ∧ N ≤ 100 := by have := countI_bounds m 10; have := hN.out; omega
  have HMANY : Hd (max (Int.tdiv ((m : Int) + 9) 10) 1 = (N : Int)) := hid (by rw [← hN.out]; exact many10 m)
  obtain ⟨xs, hxs⟩ : ∃ xs, Hd (fileTo n m = xs) := ⟨_, hid rfl⟩
  have HX := hid (fileTo_length n m)
  have RX := hid (fileTo_ok n m)
  obtain ⟨K, hK⟩ : ∃ K, Hd (keyOf n = K) := ⟨_, hid rfl⟩
  have HK := hid (keyOf_length n)
  have RK := hid (keyOf_ok n)
  rw [hxs.out] at HX RX
  rw [hK.out] at HK RK
  have HTS : Hd ((allTexts K xs 10).length = N) := hid (by rw [allTexts, allTo_length, HX.out, hN.out]; omega)
  have HTO := hid (allTexts_ok K xs 10 RX.out (by omega))
  have HBL := hid (blobOf_len (ts := allTexts K xs 10) (by rw [HTS.out]; omega) (fun X hX => (HTO.out X hX).1) (by rw [HTS.out]; omega))
  have HRL : Hd ((rootOf (hashesOf (allTexts K xs 10))).length = 32) := hid (rootF_H32 _ _ (hashesOf_H32 _)).1
  have HSL : Hd ((shaOf (blobOf (allTexts K xs 10))).length = 32) := hid (shaOf_length _)
  have HMK := hid fun A c w hA hc hr => make16_calls K xs 9 10 A m c w HK.out RK.out RX.out HX.out hA hc hr (by omega) (by omega) (by omega)
  obtain ⟨bs, hbs⟩ : ∃ bs, Hd (blobOf (allTexts K xs 10) = bs) := ⟨_, hid rfl⟩
  obtain ⟨RT, hRT⟩ : ∃ RT, Hd (rootOf (hashesOf (allTexts K xs 10)) = RT) := ⟨_, hid rfl⟩
  obtain ⟨SH, hSH⟩ : ∃ SH, Hd (shaOf bs = SH) := ⟨_, hid rfl⟩
  rw [hbs.out, hSH.out] at HSL
  rw [hRT.out] at HRL
  rw [hbs.out] at HBL
  rw [hRT.out, hbs.out, hSH.out] at HMK
  obtain ⟨bl, hbl⟩ : ∃ bl, Hd (bs.length = bl) := ⟨_, hid rfl⟩
  rw [hbl.out] at HBL
  have hblb : 0 < bl ∧ bl ≤ 100000 := HBL.out
  have HDL : Hd ((descC 9 (m : Nat) 10 K RT SH).length = 99) := hid (descC_length HK.out HRL.out HSL.out)
  have HD1 := hid (descC_one 9 (m : Nat) 10 K RT SH)
  have HD00 : Hd ((descC 9 (m : Nat) 10 K RT SH)[0]? = some (.int .u32 9)) := hid rfl
  have HD01 : Hd ((descC 9 (m : Nat) 10 K RT SH)[1]? = some (.int .u32 (m : Int))) := hid rfl
  have HD02 : Hd ((descC 9 (m : Nat) 10 K RT SH)[2]? = some (.int .u32 ((10 : Nat) : Int))) := hid rfl
  have HBU := hid fun A n c => builtRowU 9 (m : Nat) 10 K RT SH HK.out HRL.out HSL.out A n c
  have HBD := hid fun g => builtRowD 9 (m : Nat) 10 K RT SH HK.out HRL.out HSL.out g
  obtain ⟨kb, HKB⟩ : ∃ kb, Hd ((N + 7) / 8 = kb) := ⟨_, hid rfl⟩
  have HDN := hid fun w => dnew_calls 9 m 10 N kb K RT SH w HK.out HRL.out HSL.out (by omega) (by omega) hN.out (by omega) HKB.out
  clear HTO HTS HBL
  obtain ⟨D, hD⟩ : ∃ D, D = descC 9 (m : Nat) 10 K RT SH := ⟨_, rfl⟩
  rw [show ((10 : Nat) : Int) = 10 from rfl] at HDN
  rw [← hD] at HDL HD1 HD00 HD01 HD02
  simp only [← hD] at HMK HBU HBD HDN
  clear hD
  have HZ1 := hid zeroD_length
  have hN1 : (1 : Int) ≤ N := by omega
  rcases many_or m N hN.out with hmq | ⟨hmq, rfl⟩
  · go_wp2_with (first
      | (go_at_call 9; refine (file_calls n m _ (by omega)).mono ?_; rintro e w3 ⟨v3, rfl, ho, hB⟩; obtain ⟨A3, c3, h3, hc3, _, _⟩ := ho.slice; rw [fileTo_length] at h3 hc3; subst h3; replace hS := hS.pushOwn hB ho; rw [hxs.out] at hS; clear ho hB)
      | (go_at_call 10; refine (keyC_calls n _).mono ?_; rintro e w4 ⟨rfl, hB⟩; rw [hK.out]; replace hS : HS NoF w w4 [.os 5 (.slice A3 m c3) (ints .u8 xs)] := hS.below hB; clear hB)
      | (go_at_call 29; refine (HMK.out A3 c3 _ (hS.os 0 rfl).len.2.2.2 hc3 ((hS.os 0 rfl).rd rfl)).mono ?_; rintro e w5 ⟨v5, rfl, hox, hown, hB⟩; obtain ⟨A5, c5, h5, hc5, _⟩ := hox.parts; rw [ints_length, hbl.out] at h5 hc5; subst h5; replace hS : HS NoF w w5 [.os 5 (.slice A5 bl c5) (ints .u8 bs), .os 5 (.slice A3 m c3) (ints .u8 xs)] := hS.push hB _ hox (fun k hk => (by have := hown k hk; exact Nat.le_trans (by omega) this)); clear hox hown hB)
      | (refine alloc_blk rfl 32 rfl _ rfl zeroD zeroDesc ?_; intro g11 w11 hga hba hBa hsa; replace hS : HS NoF w w11 [.blk g11 32 zeroD, .os 5 (.slice A5 bl c5) (ints .u8 bs), .os 5 (.slice A3 m c3) (ints .u8 xs)] := hS.pushBlk hBa hba hga; clear hga hba hBa hsa)
      | (refine hs_storeW hS 0 rfl rfl 32 _ _ rfl rfl D rfl HD1.out 99 sizeDesc HDL.out HZ1.out _ rfl ?_; clear hS; intro w6 hS; replace hS : HS NoF w w6 [.blk g11 32 D, .os 5 (.slice A5 bl c5) (ints .u8 bs), .os 5 (.slice A3 m c3) (ints .u8 xs)] := hS)
      | (refine hs_loadW hS 0 rfl rfl 32 _ rfl rfl 99 sizeDesc HDL.out _ undDesc.choose_spec rfl _ rfl ?_)
      | (refine build_to rfl 70 _ rfl (rowC 4 1 2 D (.slice A5 bl c5) [.int .i64 0, .int .i64 0, .int .i64 0, .int .i64 0] (.pointer none)).toArray (by rw [Array.toList_map]; exact HBU.out A5 bl c5) ?_)
      | (refine alloc_blk rfl 70 rfl _ rfl rowZ zeroRow ?_; intro g14 w7 hga hba hBa hsa; replace hS : HS NoF w w7 [.blk g14 70 rowZ, .blk g11 32 D, .os 5 (.slice A5 bl c5) (ints .u8 bs), .os 5 (.slice A3 m c3) (ints .u8 xs)] := hS.pushBlk hBa hba hga; clear hga hba hBa hsa)
      | (refine hs_storeW hS 0 rfl rfl 70 _ _ rfl rfl (rowC 4 1 2 D (.slice A5 bl c5) [.int .i64 0, .int .i64 0, .int .i64 0, .int .i64 0] (.pointer none)) rfl (rowC_one _ _ _ _ _ _ _ _ _ _ HD1.out rfl rfl) 108 sizeRow (rowC_get _ _ _ _ _ _ _ _ _ _ HDL.out _ rfl).1 rowZ_length _ rfl ?_; clear hS; intro w8 hS; replace hS : HS NoF w w8 [.blk g14 70 (rowC 4 1 2 D (.slice A5 bl c5) [.int .i64 0, .int .i64 0, .int .i64 0, .int .i64 0] (.pointer none)), .blk g11 32 D, .os 5 (.slice A5 bl c5) (ints .u8 bs), .os 5 (.slice A3 m c3) (ints .u8 xs)] := hS)
      | fail)
    refine (numN_calls at_ bl _ (by omega) (by omega)).mono ?_
    rintro e w9 ⟨aa, hu, rfl, hw9⟩
    subst hw9
    have hu2 : aa < bl := by omega
    clear hu
    obtain ⟨R, hR⟩ : ∃ R, rowC 4 1 2 D (.slice A5 bl c5) [.int .i64 0, .int .i64 aa, .int .i64 0, .int .i64 0] (.pointer none) = R := ⟨_, rfl⟩
    have HR := rowC_get _ _ _ _ _ _ _ _ _ _ HDL.out R hR
    have HRE := hid hR
    have HRL2 := hid HR.1
    have HR0 := hid HR.2.1
    have HR1 := hid HR.2.2.1
    have HR2 := hid HR.2.2.2.1
    have HR3 := hid (HR.2.2.2.2.1.trans HD00.out)
    have HR4 := hid (HR.2.2.2.2.2.1.trans HD01.out)
    have HR5 := hid (HR.2.2.2.2.2.2.1.trans HD02.out)
    have HR102 := hid HR.2.2.2.2.2.2.2.1
    have HR104 := hid HR.2.2.2.2.2.2.2.2.1
    have HR107 := hid HR.2.2.2.2.2.2.2.2.2
    clear HR hR
    go_wp2_with (first
      | (refine hs_store1 hS 0 rfl rfl 3 _ _ rfl 104 rfl (.int .i64 (aa : Int)) rfl rfl sizeIntM (by rw [(rowC_get _ _ _ _ _ _ _ _ _ _ HDL.out _ rfl).1]; decide) _ rfl ?_; clear hS; intro w10 hS; replace hS : HS NoF w w10 [.blk g14 70 ((rowC 4 1 2 D (.slice A5 bl c5) [.int .i64 0, .int .i64 0, .int .i64 0, .int .i64 0] (.pointer none)).set 104 (.int .i64 (aa : Int))), .blk g11 32 D, .os 5 (.slice A5 bl c5) (ints .u8 bs), .os 5 (.slice A3 m c3) (ints .u8 xs)] := hS; rw [rowC_set104 _ _ _ _ _ _ _ _ _ _ _ HDL.out, HRE.out] at hS; have c104 : w10.cell? ⟨g14, 104, none⟩ = some (.int .i64 (aa : Int)) := (hS.cell 0 rfl 104).trans HR104.out)
      | (refine alloc_blk rfl 72 rfl _ rfl (moveC 0 0 0 0 0 0) zeroMove ?_; intro g15 w12 hga hba hBa hsa; replace hS : HS NoF w w12 [.blk g15 72 (moveC 0 0 0 0 0 0), .blk g14 70 R, .blk g11 32 D, .os 5 (.slice A5 bl c5) (ints .u8 bs), .os 5 (.slice A3 m c3) (ints .u8 xs)] := hS.pushBlk hBa hba hga; clear hga hba hBa hsa)
      | (refine hs_storeW hS 0 rfl rfl 72 _ _ rfl rfl (moveC 4 1 2 m aa bl) rfl (moveC_one _ _ _ _ _ _) 6 sizeMove rfl rfl _ rfl ?_; clear hS; intro w13 hS; replace hS : HS NoF w w13 [.blk g15 72 (moveC 4 1 2 m aa bl), .blk g14 70 (R), .blk g11 32 D, .os 5 (.slice A5 bl c5) (ints .u8 bs), .os 5 (.slice A3 m c3) (ints .u8 xs)] := hS)
      | fail)
    try go_wp2_with fail
    refine wp_region_S (F := NoF) (w0 := w) (L0 := [.blk g15 72 (moveC 4 1 2 m aa bl), .blk g14 70 (R), .blk g11 32 D, .os 5 (.slice A5 bl c5) (ints .u8 bs), .os 5 (.slice A3 m c3) (ints .u8 xs)]) [1] []
      (fun iK u E => match iK with
        | 1 => u = .agg (moveC 4 1 2 m aa bl).toArray ∧ E = []
        | _ => False)
      ([]) (by kernel_rfl) (by kernel_rfl) hS ?_
    show wpS _ _ _ _ _ _ _ _ _ _ [0, 1, 2, 3] _
    apply wpS_read (i := 0) rfl rfl ⟨_, hS⟩ rfl -- Op.load 70 t14
    · intro w' hT'
      simp only [List.getElem_toArray, List.getElem_cons_zero, List.getElem_cons_succ]
      go_wp2_with (first
        | (refine hs_loadW hT' 1 rfl rfl 70 _ rfl rfl 108 sizeRow HRL2.out _ undRow.choose_spec rfl _ rfl ?_)
        | (refine hs_loadW hT' 0 rfl rfl 72 _ rfl rfl 6 sizeMove rfl _ undMove.choose_spec rfl _ rfl ?_)
        | (refine bin_to rfl _ _ _ _ _ rfl (moveC 4 1 2 m aa bl).toArray (moveC 4 1 2 m aa bl).toArray rfl rfl guardMove (.bool false) (move_neq _ _ _ _ _ _) _ rfl ?_)
        | fail)
      first | exact ⟨rfl, rfl, rfl⟩ | rfl
    refine wpS_soft (i := 1) rfl rfl rfl (Nat.le_of_ble_eq_true rfl) ?_ ?_ -- Op.call { value (Operand.func 31), args := #[t65], argTypes := #[70]
    · intro w' hT
      simp only [List.getElem_toArray, List.getElem_cons_zero, List.getElem_cons_succ]
      go_wp2_with (first
        | (go_at_call 31; refine (told_up R 4 m aa A5 bl c5 _ HRL2.out HR0.out HR1.out HR2.out HR4.out (by omega) HR102.out HR104.out HR107.out).mono ?_; rintro e w6 ⟨rfl, hB6⟩)
        | fail)
      exact SoftP.mk' (.agg (moveC 4 1 2 m aa bl).toArray) ([]) rfl (⟨rfl, rfl⟩) (hT.below hB6) (hB6) (fun _ h => by cases h)
    intro u1 E1 hK1
    obtain ⟨rfl, rfl⟩ := hK1
    simp only [Act.put, List.setIfInBounds_toArray, List.set_cons_zero, List.set_cons_succ]
    apply wpS_read (i := 2) rfl rfl ⟨_, hS⟩ rfl -- Op.load 72 t15
    · intro w' hT'
      simp only [List.getElem_toArray, List.getElem_cons_zero, List.getElem_cons_succ]
      go_wp2_with (first
        | (refine hs_loadW hT' 1 rfl rfl 70 _ rfl rfl 108 sizeRow HRL2.out _ undRow.choose_spec rfl _ rfl ?_)
        | (refine hs_loadW hT' 0 rfl rfl 72 _ rfl rfl 6 sizeMove rfl _ undMove.choose_spec rfl _ rfl ?_)
        | (refine bin_to rfl _ _ _ _ _ rfl (moveC 4 1 2 m aa bl).toArray (moveC 4 1 2 m aa bl).toArray rfl rfl guardMove (.bool false) (move_neq _ _ _ _ _ _) _ rfl ?_)
        | fail)
      first | exact ⟨rfl, rfl, rfl⟩ | rfl
    apply wpS_read (i := 3) rfl rfl ⟨_, hS⟩ rfl -- Op.binOp BinOp.neq 72 t66 t67 72
    · intro w' hT'
      simp only [List.getElem_toArray, List.getElem_cons_zero, List.getElem_cons_succ]
      go_wp2_with (first
        | (refine hs_loadW hT' 1 rfl rfl 70 _ rfl rfl 108 sizeRow HRL2.out _ undRow.choose_spec rfl _ rfl ?_)
        | (refine hs_loadW hT' 0 rfl rfl 72 _ rfl rfl 6 sizeMove rfl _ undMove.choose_spec rfl _ rfl ?_)
        | (refine bin_to rfl _ _ _ _ _ rfl (moveC 4 1 2 m aa bl).toArray (moveC 4 1 2 m aa bl).toArray rfl rfl guardMove (.bool false) (move_neq _ _ _ _ _ _) _ rfl ?_)
        | fail)
      first | exact ⟨rfl, rfl, rfl⟩ | rfl
    refine wpS_end ?_
    intro wz hT
    try dsimp only
    clear hS
    have hS : HS NoF w wz [.blk g15 72 (moveC 4 1 2 m aa bl), .blk g14 70 (R), .blk g11 32 D, .os 5 (.slice A5 bl c5) (ints .u8 bs), .os 5 (.slice A3 m c3) (ints .u8 xs)] := hT
    clear hT
    go_wp2_with fail
    have HBZ := hid (builtDescZ 9 (m : Nat) 10)
    have HZDL := hid (dscZ_length 9 (m : Nat) 10)
    have HZD1 := hid (descC_one 9 (m : Nat) 10 (List.replicate 32 0) (List.replicate 32 0) (List.replicate 32 0))
    have HZ01 : Hd ((dscZ 9 (m : Nat) 10)[1]? = some (.int .u32 (m : Int))) := hid rfl
    have HEND := hid fun (s : Nat) w => tend_calls R 4 1 s 9 m 10 none w HRL2.out HR0.out HR1.out HR3.out HR4.out HR5.out HR107.out (.inl rfl)
    change Hd (∀ v ∈ dscZ 9 (m : Nat) 10, v.oneCell' = true) at HZD1
    replace HEQ : Hd (∀ w, (binOp .neq 32 (.agg (dscZ 9 (m : Nat) 10).toArray) (.agg (dscZ 9 (m : Nat) 10).toArray)).run Tryd.prog w = .ok (.bool false) w) := hid (HEQ.out m)
    generalize dscZ 9 (m : Nat) 10 = DZ at *
    go_loopg [17] 4 (fun kq v17 wr => ∃ s : Nat, 3 ≤ s ∧ s ≤ 6 ∧ v17 = .int .i64 s ∧ Hd (kq + s = 7) ∧ HS NoF w wr [.blk g15 72 (moveC 4 1 2 m aa bl), .blk g14 70 (R), .blk g11 32 D, .os 5 (.slice A5 bl c5) (ints .u8 bs), .os 5 (.slice A3 m c3) (ints .u8 xs)])
    case atStart => exact ⟨3, by omega, by omega, rfl, hid rfl, hS⟩
    case round =>
      clear hS
      obtain ⟨s, hs3, hs6, rfl, hq, hS⟩ := hrel
      by_cases hlt : s ≤ 5
      · have hlt2 : (s : Int) ≤ 5 := by omega
        clear hlt
        go_wp2_with (first
            | (refine hs_loadW hS 1 rfl rfl 70 _ rfl rfl 108 sizeRow HRL2.out _ undRow.choose_spec rfl _ rfl ?_)
            | (go_at_call 32; refine (HEND.out s _).mono ?_; rintro e we ⟨rfl, hB⟩; replace hS := hS.below hB; clear hB)
            | (refine alloc_blk rfl 70 rfl _ rfl rowZ zeroRow ?_; intro g18 wa hga hba hBa hsa; replace hS := hS.pushBlk hBa hba hga; clear hga hba hBa hsa)
            | (refine hs_storeW hS 0 rfl rfl 70 _ _ rfl rfl (endC 4 1 s DZ (.slice none 0 0)) rfl (endC_one _ _ _ _ _ HZD1.out rfl) 108 sizeRow (endC_length _ _ _ _ _ HZDL.out) rowZ_length _ rfl ?_; clear hS; intro wb hS; replace hS : HS NoF w wb (.blk g18 70 (endC 4 1 s DZ (.slice none 0 0)) :: [.blk g15 72 (moveC 4 1 2 m aa bl), .blk g14 70 (R), .blk g11 32 D, .os 5 (.slice A5 bl c5) (ints .u8 bs), .os 5 (.slice A3 m c3) (ints .u8 xs)]) := hS)
            | fail)
        have HE := rowC_get 4 1 s DZ (.slice none 0 0) (.pointer none) 0 0 0 0 HZDL.out _ rfl
        have HEN := hid (rowC_D 4 1 s DZ (.slice none 0 0) (.pointer none) [.int .i64 0, .int .i64 0, .int .i64 0, .int .i64 0] HZDL.out)
        obtain ⟨E, hE⟩ : ∃ E, endC 4 1 s DZ (.slice none 0 0) = E := ⟨_, rfl⟩
        change _ at HE
        unfold endC at hE
        rw [hE] at HE HEN
        have HEL := hid HE.1
        have HE0 := hid HE.2.1
        have HE1 := hid HE.2.2.1
        have HE2 := hid HE.2.2.2.1
        have HE4 := hid (HE.2.2.2.2.2.1.trans HZ01.out)
        have HE102 := hid HE.2.2.2.2.2.2.2.1
        have HE107 := hid HE.2.2.2.2.2.2.2.2.2
        clear HE
        replace hS : HS NoF w wb (.blk g18 70 E :: [.blk g15 72 (moveC 4 1 2 m aa bl), .blk g14 70 (R), .blk g11 32 D, .os 5 (.slice A5 bl c5) (ints .u8 bs), .os 5 (.slice A3 m c3) (ints .u8 xs)]) := hE ▸ hS
        clear hE
        go_wp2_with fail
        try go_wp2_with fail
        refine wp_region_S (F := NoF) (w0 := w) (L0 := (.blk g18 70 E :: [.blk g15 72 (moveC 4 1 2 m aa bl), .blk g14 70 (R), .blk g11 32 D, .os 5 (.slice A5 bl c5) (ints .u8 bs), .os 5 (.slice A3 m c3) (ints .u8 xs)])) [1] []
          (fun iK u E => match iK with
            | 1 => u = .agg (moveC 4 1 s m 0 0).toArray ∧ E = []
            | _ => False)
          ([]) (by kernel_rfl) (by kernel_rfl) hS ?_
        show wpS _ _ _ _ _ _ _ _ _ _ [0, 1, 2, 3, 4, 5, 6, 7, 8, 9, 10, 11, 12, 13, 14, 15, 16, 17, 18, 19, 20, 21, 22, 23, 24, 25, 26, 27, 28, 29, 30, 31] _
        apply wpS_read (i := 0) rfl rfl ⟨_, hS⟩ rfl -- Op.load 70 t18
        · intro w' hT'
          simp only [List.getElem_toArray, List.getElem_cons_zero, List.getElem_cons_succ]
          have ck : w'.cell? ⟨g15, 1, none⟩ = some (.int .i64 1) := hT'.cell 1 rfl 1
          have cb : w'.cell? ⟨g18, 102, none⟩ = some (.slice none 0 0) := (hT'.cell 0 rfl 102).trans HE102.out
          go_wp2_with (first
            | (refine hs_loadW hT' 0 rfl rfl 70 _ rfl rfl 108 sizeRow HEL.out _ undRow.choose_spec rfl _ rfl ?_)
            | (refine hs_loadN hT' 0 rfl rfl 32 _ rfl 3 rfl DZ HEN.out 99 sizeDesc HZDL.out _ undDesc.choose_spec rfl _ rfl ?_)
            | (refine build_to rfl 32 _ rfl DZ.toArray (by rw [Array.toList_map]; exact HBZ.out) ?_)
            | (refine bin_to rfl _ _ _ _ _ rfl (moveC 4 1 s m 0 0).toArray (moveC 4 1 s m 0 0).toArray rfl rfl guardMove (.bool false) (move_neq _ _ _ _ _ _) _ rfl ?_)
            | (refine bin_to rfl _ _ _ _ _ rfl DZ.toArray DZ.toArray rfl rfl guardDesc (.bool false) HEQ.out _ rfl ?_)
            | fail)
          first | exact ⟨rfl, rfl, rfl⟩ | rfl
        refine wpS_soft (i := 1) rfl rfl rfl (Nat.le_of_ble_eq_true rfl) ?_ ?_ -- Op.call { value (Operand.func 31), args := #[t76], argTypes := #[70]
        · intro w' hT
          simp only [List.getElem_toArray, List.getElem_cons_zero, List.getElem_cons_succ]
          go_wp2_with (first
            | (go_at_call 31; refine (told_end E 4 1 s m _ HEL.out HE0.out HE1.out HE2.out HE4.out (by omega) HE107.out (by omega)).mono ?_; rintro e w6 ⟨rfl, hB6⟩)
            | fail)
          exact SoftP.mk' (.agg (moveC 4 1 s m 0 0).toArray) ([]) rfl (⟨rfl, rfl⟩) (hT.below hB6) (hB6) (fun _ h => by cases h)
        intro u1 E1 hK1
        obtain ⟨rfl, rfl⟩ := hK1
        simp only [Act.put, List.setIfInBounds_toArray, List.set_cons_zero, List.set_cons_succ]
        apply wpS_read (i := 2) rfl rfl ⟨_, hS⟩ rfl -- Op.fieldAddr 72 t15 1
        · intro w' hT'
          simp only [List.getElem_toArray, List.getElem_cons_zero, List.getElem_cons_succ]
          go_wp2_with fail
          first | exact ⟨rfl, rfl, rfl⟩ | rfl
        apply wpS_read (i := 3) rfl rfl ⟨_, hS⟩ rfl -- Op.load 3 t78
        · intro w' hT'
          simp only [List.getElem_toArray, List.getElem_cons_zero, List.getElem_cons_succ]
          have ck : w'.cell? ⟨g15, 1, none⟩ = some (.int .i64 1) := hT'.cell 1 rfl 1
          have cb : w'.cell? ⟨g18, 102, none⟩ = some (.slice none 0 0) := (hT'.cell 0 rfl 102).trans HE102.out
          go_wp2_with (first
            | (refine hs_loadW hT' 0 rfl rfl 70 _ rfl rfl 108 sizeRow HEL.out _ undRow.choose_spec rfl _ rfl ?_)
            | (refine hs_loadN hT' 0 rfl rfl 32 _ rfl 3 rfl DZ HEN.out 99 sizeDesc HZDL.out _ undDesc.choose_spec rfl _ rfl ?_)
            | (refine build_to rfl 32 _ rfl DZ.toArray (by rw [Array.toList_map]; exact HBZ.out) ?_)
            | (refine bin_to rfl _ _ _ _ _ rfl (moveC 4 1 s m 0 0).toArray (moveC 4 1 s m 0 0).toArray rfl rfl guardMove (.bool false) (move_neq _ _ _ _ _ _) _ rfl ?_)
            | (refine bin_to rfl _ _ _ _ _ rfl DZ.toArray DZ.toArray rfl rfl guardDesc (.bool false) HEQ.out _ rfl ?_)
            | fail)
          first | exact ⟨rfl, rfl, rfl⟩ | rfl
        apply wpS_read (i := 4) rfl rfl ⟨_, hS⟩ rfl -- Op.move t17
        · intro w' hT'
          simp only [List.getElem_toArray, List.getElem_cons_zero, List.getElem_cons_succ]
          go_wp2_with fail
          first | exact ⟨rfl, rfl, rfl⟩ | rfl
        apply wpS_read (i := 5) rfl rfl ⟨_, hS⟩ rfl -- Op.move t1
        · intro w' hT'
          simp only [List.getElem_toArray, List.getElem_cons_zero, List.getElem_cons_succ]
          go_wp2_with fail
          first | exact ⟨rfl, rfl, rfl⟩ | rfl
        apply wpS_read (i := 6) rfl rfl ⟨_, hS⟩ rfl -- Op.build 72 #[(0, const (4:i64)), (1, t79), (2, t80), (3, t81)]
        · intro w' hT'
          simp only [List.getElem_toArray, List.getElem_cons_zero, List.getElem_cons_succ]
          go_wp2_with (first
            | (refine hs_loadW hT' 0 rfl rfl 70 _ rfl rfl 108 sizeRow HEL.out _ undRow.choose_spec rfl _ rfl ?_)
            | (refine hs_loadN hT' 0 rfl rfl 32 _ rfl 3 rfl DZ HEN.out 99 sizeDesc HZDL.out _ undDesc.choose_spec rfl _ rfl ?_)
            | (refine build_to rfl 32 _ rfl DZ.toArray (by rw [Array.toList_map]; exact HBZ.out) ?_)
            | (refine bin_to rfl _ _ _ _ _ rfl (moveC 4 1 s m 0 0).toArray (moveC 4 1 s m 0 0).toArray rfl rfl guardMove (.bool false) (move_neq _ _ _ _ _ _) _ rfl ?_)
            | (refine bin_to rfl _ _ _ _ _ rfl DZ.toArray DZ.toArray rfl rfl guardDesc (.bool false) HEQ.out _ rfl ?_)
            | fail)
          first | exact ⟨rfl, rfl, rfl⟩ | rfl
        apply wpS_read (i := 7) rfl rfl ⟨_, hS⟩ rfl -- Op.binOp BinOp.neq 72 t77 t82 72
        · intro w' hT'
          simp only [List.getElem_toArray, List.getElem_cons_zero, List.getElem_cons_succ]
          go_wp2_with (first
            | (refine hs_loadW hT' 0 rfl rfl 70 _ rfl rfl 108 sizeRow HEL.out _ undRow.choose_spec rfl _ rfl ?_)
            | (refine hs_loadN hT' 0 rfl rfl 32 _ rfl 3 rfl DZ HEN.out 99 sizeDesc HZDL.out _ undDesc.choose_spec rfl _ rfl ?_)
            | (refine build_to rfl 32 _ rfl DZ.toArray (by rw [Array.toList_map]; exact HBZ.out) ?_)
            | (refine bin_to rfl _ _ _ _ _ rfl (moveC 4 1 s m 0 0).toArray (moveC 4 1 s m 0 0).toArray rfl rfl guardMove (.bool false) (move_neq _ _ _ _ _ _) _ rfl ?_)
            | (refine bin_to rfl _ _ _ _ _ rfl DZ.toArray DZ.toArray rfl rfl guardDesc (.bool false) HEQ.out _ rfl ?_)
            | fail)
          first | exact ⟨rfl, rfl, rfl⟩ | rfl
        apply wpS_read (i := 8) rfl rfl ⟨_, hS⟩ rfl -- Op.move t83
        · intro w' hT'
          simp only [List.getElem_toArray, List.getElem_cons_zero, List.getElem_cons_succ]
          go_wp2_with fail
          first | exact ⟨rfl, rfl, rfl⟩ | rfl
        apply wpS_read (i := 9) rfl rfl ⟨_, hS⟩ rfl -- Op.fieldAddr 70 t18 3
        · intro w' hT'
          simp only [List.getElem_toArray, List.getElem_cons_zero, List.getElem_cons_succ]
          go_wp2_with fail
          first | exact ⟨rfl, rfl, rfl⟩ | rfl
        apply wpS_read (i := 10) rfl rfl ⟨_, hS⟩ rfl -- Op.load 32 t85
        · intro w' hT'
          simp only [List.getElem_toArray, List.getElem_cons_zero, List.getElem_cons_succ]
          have ck : w'.cell? ⟨g15, 1, none⟩ = some (.int .i64 1) := hT'.cell 1 rfl 1
          have cb : w'.cell? ⟨g18, 102, none⟩ = some (.slice none 0 0) := (hT'.cell 0 rfl 102).trans HE102.out
          go_wp2_with (first
            | (refine hs_loadW hT' 0 rfl rfl 70 _ rfl rfl 108 sizeRow HEL.out _ undRow.choose_spec rfl _ rfl ?_)
            | (refine hs_loadN hT' 0 rfl rfl 32 _ rfl 3 rfl DZ HEN.out 99 sizeDesc HZDL.out _ undDesc.choose_spec rfl _ rfl ?_)
            | (refine build_to rfl 32 _ rfl DZ.toArray (by rw [Array.toList_map]; exact HBZ.out) ?_)
            | (refine bin_to rfl _ _ _ _ _ rfl (moveC 4 1 s m 0 0).toArray (moveC 4 1 s m 0 0).toArray rfl rfl guardMove (.bool false) (move_neq _ _ _ _ _ _) _ rfl ?_)
            | (refine bin_to rfl _ _ _ _ _ rfl DZ.toArray DZ.toArray rfl rfl guardDesc (.bool false) HEQ.out _ rfl ?_)
            | fail)
          first | exact ⟨rfl, rfl, rfl⟩ | rfl
        apply wpS_read (i := 11) rfl rfl ⟨_, hS⟩ rfl -- Op.move t1
        · intro w' hT'
          simp only [List.getElem_toArray, List.getElem_cons_zero, List.getElem_cons_succ]
          go_wp2_with fail
          first | exact ⟨rfl, rfl, rfl⟩ | rfl
        apply wpS_read (i := 12) rfl rfl ⟨_, hS⟩ rfl -- Op.convert 3 29 t87
        · intro w' hT'
          simp only [List.getElem_toArray, List.getElem_cons_zero, List.getElem_cons_succ]
          go_wp2_with (first
            | (refine hs_loadW hT' 0 rfl rfl 70 _ rfl rfl 108 sizeRow HEL.out _ undRow.choose_spec rfl _ rfl ?_)
            | (refine hs_loadN hT' 0 rfl rfl 32 _ rfl 3 rfl DZ HEN.out 99 sizeDesc HZDL.out _ undDesc.choose_spec rfl _ rfl ?_)
            | (refine build_to rfl 32 _ rfl DZ.toArray (by rw [Array.toList_map]; exact HBZ.out) ?_)
            | (refine bin_to rfl _ _ _ _ _ rfl (moveC 4 1 s m 0 0).toArray (moveC 4 1 s m 0 0).toArray rfl rfl guardMove (.bool false) (move_neq _ _ _ _ _ _) _ rfl ?_)
            | (refine bin_to rfl _ _ _ _ _ rfl DZ.toArray DZ.toArray rfl rfl guardDesc (.bool false) HEQ.out _ rfl ?_)
            | fail)
          first | exact ⟨rfl, rfl, rfl⟩ | rfl
        apply wpS_read (i := 13) rfl rfl ⟨_, hS⟩ rfl -- Op.build 32 #[(0, const (9:u32)), (1, t88), (2, const (10:u32))]
        · intro w' hT'
          simp only [List.getElem_toArray, List.getElem_cons_zero, List.getElem_cons_succ]
          go_wp2_with (first
            | (refine hs_loadW hT' 0 rfl rfl 70 _ rfl rfl 108 sizeRow HEL.out _ undRow.choose_spec rfl _ rfl ?_)
            | (refine hs_loadN hT' 0 rfl rfl 32 _ rfl 3 rfl DZ HEN.out 99 sizeDesc HZDL.out _ undDesc.choose_spec rfl _ rfl ?_)
            | (refine build_to rfl 32 _ rfl DZ.toArray (by rw [Array.toList_map]; exact HBZ.out) ?_)
            | (refine bin_to rfl _ _ _ _ _ rfl (moveC 4 1 s m 0 0).toArray (moveC 4 1 s m 0 0).toArray rfl rfl guardMove (.bool false) (move_neq _ _ _ _ _ _) _ rfl ?_)
            | (refine bin_to rfl _ _ _ _ _ rfl DZ.toArray DZ.toArray rfl rfl guardDesc (.bool false) HEQ.out _ rfl ?_)
            | fail)
          first | exact ⟨rfl, rfl, rfl⟩ | rfl
        apply wpS_read (i := 14) rfl rfl ⟨_, hS⟩ rfl -- Op.binOp BinOp.neq 32 t86 t89 32
        · intro w' hT'
          simp only [List.getElem_toArray, List.getElem_cons_zero, List.getElem_cons_succ]
          go_wp2_with (first
            | (refine hs_loadW hT' 0 rfl rfl 70 _ rfl rfl 108 sizeRow HEL.out _ undRow.choose_spec rfl _ rfl ?_)
            | (refine hs_loadN hT' 0 rfl rfl 32 _ rfl 3 rfl DZ HEN.out 99 sizeDesc HZDL.out _ undDesc.choose_spec rfl _ rfl ?_)
            | (refine build_to rfl 32 _ rfl DZ.toArray (by rw [Array.toList_map]; exact HBZ.out) ?_)
            | (refine bin_to rfl _ _ _ _ _ rfl (moveC 4 1 s m 0 0).toArray (moveC 4 1 s m 0 0).toArray rfl rfl guardMove (.bool false) (move_neq _ _ _ _ _ _) _ rfl ?_)
            | (refine bin_to rfl _ _ _ _ _ rfl DZ.toArray DZ.toArray rfl rfl guardDesc (.bool false) HEQ.out _ rfl ?_)
            | fail)
          first | exact ⟨rfl, rfl, rfl⟩ | rfl
        apply wpS_read (i := 15) rfl rfl ⟨_, hS⟩ rfl -- Op.pick t84 (const (Value.bool true)) t90
        · intro w' hT'
          simp only [List.getElem_toArray, List.getElem_cons_zero, List.getElem_cons_succ]
          go_wp2_with fail
          first | exact ⟨rfl, rfl, rfl⟩ | rfl
        apply wpS_read (i := 16) rfl rfl ⟨_, hS⟩ rfl -- Op.move t91
        · intro w' hT'
          simp only [List.getElem_toArray, List.getElem_cons_zero, List.getElem_cons_succ]
          go_wp2_with fail
          first | exact ⟨rfl, rfl, rfl⟩ | rfl
        apply wpS_read (i := 17) rfl rfl ⟨_, hS⟩ rfl -- Op.fieldAddr 70 t18 4
        · intro w' hT'
          simp only [List.getElem_toArray, List.getElem_cons_zero, List.getElem_cons_succ]
          go_wp2_with fail
          first | exact ⟨rfl, rfl, rfl⟩ | rfl
        apply wpS_read (i := 18) rfl rfl ⟨_, hS⟩ rfl -- Op.load 24 t93
        · intro w' hT'
          simp only [List.getElem_toArray, List.getElem_cons_zero, List.getElem_cons_succ]
          have ck : w'.cell? ⟨g15, 1, none⟩ = some (.int .i64 1) := hT'.cell 1 rfl 1
          have cb : w'.cell? ⟨g18, 102, none⟩ = some (.slice none 0 0) := (hT'.cell 0 rfl 102).trans HE102.out
          go_wp2_with (first
            | (refine hs_loadW hT' 0 rfl rfl 70 _ rfl rfl 108 sizeRow HEL.out _ undRow.choose_spec rfl _ rfl ?_)
            | (refine hs_loadN hT' 0 rfl rfl 32 _ rfl 3 rfl DZ HEN.out 99 sizeDesc HZDL.out _ undDesc.choose_spec rfl _ rfl ?_)
            | (refine build_to rfl 32 _ rfl DZ.toArray (by rw [Array.toList_map]; exact HBZ.out) ?_)
            | (refine bin_to rfl _ _ _ _ _ rfl (moveC 4 1 s m 0 0).toArray (moveC 4 1 s m 0 0).toArray rfl rfl guardMove (.bool false) (move_neq _ _ _ _ _ _) _ rfl ?_)
            | (refine bin_to rfl _ _ _ _ _ rfl DZ.toArray DZ.toArray rfl rfl guardDesc (.bool false) HEQ.out _ rfl ?_)
            | fail)
          first | exact ⟨rfl, rfl, rfl⟩ | rfl
        apply wpS_read (i := 19) rfl rfl ⟨_, hS⟩ rfl -- Op.call { builtin len, args := #[t94], argTypes := #[24] }
        · intro w' hT'
          simp only [List.getElem_toArray, List.getElem_cons_zero, List.getElem_cons_succ]
          go_wp2_with fail
          first | exact ⟨rfl, rfl, rfl⟩ | rfl
        apply wpS_read (i := 20) rfl rfl ⟨_, hS⟩ rfl -- Op.binOp BinOp.gtr 3 t95 (const (0:i64)) 3
        · intro w' hT'
          simp only [List.getElem_toArray, List.getElem_cons_zero, List.getElem_cons_succ]
          go_wp2_with (first
            | (refine hs_loadW hT' 0 rfl rfl 70 _ rfl rfl 108 sizeRow HEL.out _ undRow.choose_spec rfl _ rfl ?_)
            | (refine hs_loadN hT' 0 rfl rfl 32 _ rfl 3 rfl DZ HEN.out 99 sizeDesc HZDL.out _ undDesc.choose_spec rfl _ rfl ?_)
            | (refine build_to rfl 32 _ rfl DZ.toArray (by rw [Array.toList_map]; exact HBZ.out) ?_)
            | (refine bin_to rfl _ _ _ _ _ rfl (moveC 4 1 s m 0 0).toArray (moveC 4 1 s m 0 0).toArray rfl rfl guardMove (.bool false) (move_neq _ _ _ _ _ _) _ rfl ?_)
            | (refine bin_to rfl _ _ _ _ _ rfl DZ.toArray DZ.toArray rfl rfl guardDesc (.bool false) HEQ.out _ rfl ?_)
            | fail)
          first | exact ⟨rfl, rfl, rfl⟩ | rfl
        apply wpS_read (i := 21) rfl rfl ⟨_, hS⟩ rfl -- Op.move t3
        · intro w' hT'
          simp only [List.getElem_toArray, List.getElem_cons_zero, List.getElem_cons_succ]
          go_wp2_with fail
          first | exact ⟨rfl, rfl, rfl⟩ | rfl
        apply wpS_read (i := 22) rfl rfl ⟨_, hS⟩ rfl -- Op.move t97
        · intro w' hT'
          simp only [List.getElem_toArray, List.getElem_cons_zero, List.getElem_cons_succ]
          go_wp2_with fail
          first | exact ⟨rfl, rfl, rfl⟩ | rfl
        apply wpS_read (i := 23) rfl rfl ⟨_, hS⟩ rfl -- Op.move t17
        · intro w' hT'
          simp only [List.getElem_toArray, List.getElem_cons_zero, List.getElem_cons_succ]
          go_wp2_with fail
          first | exact ⟨rfl, rfl, rfl⟩ | rfl
        apply wpS_read (i := 24) rfl rfl ⟨_, hS⟩ rfl -- Op.binOp BinOp.eql 3 t99 (const (3:i64)) 3
        · intro w' hT'
          simp only [List.getElem_toArray, List.getElem_cons_zero, List.getElem_cons_succ]
          go_wp2_with (first
            | (refine hs_loadW hT' 0 rfl rfl 70 _ rfl rfl 108 sizeRow HEL.out _ undRow.choose_spec rfl _ rfl ?_)
            | (refine hs_loadN hT' 0 rfl rfl 32 _ rfl 3 rfl DZ HEN.out 99 sizeDesc HZDL.out _ undDesc.choose_spec rfl _ rfl ?_)
            | (refine build_to rfl 32 _ rfl DZ.toArray (by rw [Array.toList_map]; exact HBZ.out) ?_)
            | (refine bin_to rfl _ _ _ _ _ rfl (moveC 4 1 s m 0 0).toArray (moveC 4 1 s m 0 0).toArray rfl rfl guardMove (.bool false) (move_neq _ _ _ _ _ _) _ rfl ?_)
            | (refine bin_to rfl _ _ _ _ _ rfl DZ.toArray DZ.toArray rfl rfl guardDesc (.bool false) HEQ.out _ rfl ?_)
            | fail)
          first | exact ⟨rfl, rfl, rfl⟩ | rfl
        apply wpS_read (i := 25) rfl rfl ⟨_, hS⟩ rfl -- Op.pick t98 t100 (const (Value.bool false))
        · intro w' hT'
          simp only [List.getElem_toArray, List.getElem_cons_zero, List.getElem_cons_succ]
          go_wp2_with fail
          first | exact ⟨rfl, rfl, rfl⟩ | rfl
        apply wpS_read (i := 26) rfl rfl ⟨_, hS⟩ rfl -- Op.move t101
        · intro w' hT'
          simp only [List.getElem_toArray, List.getElem_cons_zero, List.getElem_cons_succ]
          go_wp2_with fail
          first | exact ⟨rfl, rfl, rfl⟩ | rfl
        apply wpS_read (i := 27) rfl rfl ⟨_, hS⟩ rfl -- Op.move t1
        · intro w' hT'
          simp only [List.getElem_toArray, List.getElem_cons_zero, List.getElem_cons_succ]
          go_wp2_with fail
          first | exact ⟨rfl, rfl, rfl⟩ | rfl
        apply wpS_read (i := 28) rfl rfl ⟨_, hS⟩ rfl -- Op.binOp BinOp.gtr 3 t103 (const (0:i64)) 3
        · intro w' hT'
          simp only [List.getElem_toArray, List.getElem_cons_zero, List.getElem_cons_succ]
          go_wp2_with (first
            | (refine hs_loadW hT' 0 rfl rfl 70 _ rfl rfl 108 sizeRow HEL.out _ undRow.choose_spec rfl _ rfl ?_)
            | (refine hs_loadN hT' 0 rfl rfl 32 _ rfl 3 rfl DZ HEN.out 99 sizeDesc HZDL.out _ undDesc.choose_spec rfl _ rfl ?_)
            | (refine build_to rfl 32 _ rfl DZ.toArray (by rw [Array.toList_map]; exact HBZ.out) ?_)
            | (refine bin_to rfl _ _ _ _ _ rfl (moveC 4 1 s m 0 0).toArray (moveC 4 1 s m 0 0).toArray rfl rfl guardMove (.bool false) (move_neq _ _ _ _ _ _) _ rfl ?_)
            | (refine bin_to rfl _ _ _ _ _ rfl DZ.toArray DZ.toArray rfl rfl guardDesc (.bool false) HEQ.out _ rfl ?_)
            | fail)
          first | exact ⟨rfl, rfl, rfl⟩ | rfl
        apply wpS_read (i := 29) rfl rfl ⟨_, hS⟩ rfl -- Op.pick t102 t104 (const (Value.bool false))
        · intro w' hT'
          simp only [List.getElem_toArray, List.getElem_cons_zero, List.getElem_cons_succ]
          go_wp2_with fail
          first | exact ⟨rfl, rfl, rfl⟩ | rfl
        apply wpS_read (i := 30) rfl rfl ⟨_, hS⟩ rfl -- Op.binOp BinOp.neq 4 t96 t105 4
        · intro w' hT'
          simp only [List.getElem_toArray, List.getElem_cons_zero, List.getElem_cons_succ]
          go_wp2_with (first
            | (refine hs_loadW hT' 0 rfl rfl 70 _ rfl rfl 108 sizeRow HEL.out _ undRow.choose_spec rfl _ rfl ?_)
            | (refine hs_loadN hT' 0 rfl rfl 32 _ rfl 3 rfl DZ HEN.out 99 sizeDesc HZDL.out _ undDesc.choose_spec rfl _ rfl ?_)
            | (refine build_to rfl 32 _ rfl DZ.toArray (by rw [Array.toList_map]; exact HBZ.out) ?_)
            | (refine bin_to rfl _ _ _ _ _ rfl (moveC 4 1 s m 0 0).toArray (moveC 4 1 s m 0 0).toArray rfl rfl guardMove (.bool false) (move_neq _ _ _ _ _ _) _ rfl ?_)
            | (refine bin_to rfl _ _ _ _ _ rfl DZ.toArray DZ.toArray rfl rfl guardDesc (.bool false) HEQ.out _ rfl ?_)
            | fail)
          first | exact ⟨rfl, rfl, rfl⟩ | rfl
        apply wpS_read (i := 31) rfl rfl ⟨_, hS⟩ rfl -- Op.pick t92 (const (Value.bool true)) t106
        · intro w' hT'
          simp only [List.getElem_toArray, List.getElem_cons_zero, List.getElem_cons_succ]
          go_wp2_with fail
          first | exact ⟨rfl, rfl, rfl⟩ | rfl
        refine wpS_end ?_
        intro wz hT
        try dsimp only
        clear hS
        have hS : HS NoF w wz (.blk g18 70 E :: [.blk g15 72 (moveC 4 1 2 m aa bl), .blk g14 70 (R), .blk g11 32 D, .os 5 (.slice A5 bl c5) (ints .u8 bs), .os 5 (.slice A3 m c3) (ints .u8 xs)]) := hT
        clear hT
        go_wp2_with fail
        go_roundg (gk - 1)
        case measure => have := hq.out; omega
        case rel => exact ⟨s + 1, by omega, by omega, by go_num, hid (by have := hq.out; omega), hS.erase 0⟩
      · have hlt2 : ¬ (s : Int) ≤ 5 := by omega
        go_wp2_with fail
        go_ret
        exact ⟨rfl, hS.bel⟩
  · go_wp2_with (first
      | (go_at_call 9; refine (file_calls n m _ (by omega)).mono ?_; rintro e w3 ⟨v3, rfl, ho, hB⟩; obtain ⟨A3, c3, h3, hc3, _, _⟩ := ho.slice; rw [fileTo_length] at h3 hc3; subst h3; replace hS := hS.pushOwn hB ho; rw [hxs.out] at hS; clear ho hB)
      | (go_at_call 10; refine (keyC_calls n _).mono ?_; rintro e w4 ⟨rfl, hB⟩; rw [hK.out]; replace hS : HS NoF w w4 [.os 5 (.slice A3 m c3) (ints .u8 xs)] := hS.below hB; clear hB)
      | (go_at_call 29; refine (HMK.out A3 c3 _ (hS.os 0 rfl).len.2.2.2 hc3 ((hS.os 0 rfl).rd rfl)).mono ?_; rintro e w5 ⟨v5, rfl, hox, hown, hB⟩; obtain ⟨A5, c5, h5, hc5, _⟩ := hox.parts; rw [ints_length, hbl.out] at h5 hc5; subst h5; replace hS : HS NoF w w5 [.os 5 (.slice A5 bl c5) (ints .u8 bs), .os 5 (.slice A3 m c3) (ints .u8 xs)] := hS.push hB _ hox (fun k hk => (by have := hown k hk; exact Nat.le_trans (by omega) this)); clear hox hown hB)
      | (refine alloc_blk rfl 32 rfl _ rfl zeroD zeroDesc ?_; intro g11 w11 hga hba hBa hsa; replace hS : HS NoF w w11 [.blk g11 32 zeroD, .os 5 (.slice A5 bl c5) (ints .u8 bs), .os 5 (.slice A3 m c3) (ints .u8 xs)] := hS.pushBlk hBa hba hga; clear hga hba hBa hsa)
      | (refine hs_storeW hS 0 rfl rfl 32 _ _ rfl rfl D rfl HD1.out 99 sizeDesc HDL.out HZ1.out _ rfl ?_; clear hS; intro w6 hS; replace hS : HS NoF w w6 [.blk g11 32 D, .os 5 (.slice A5 bl c5) (ints .u8 bs), .os 5 (.slice A3 m c3) (ints .u8 xs)] := hS)
      | (refine hs_loadW hS 0 rfl rfl 32 _ rfl rfl 99 sizeDesc HDL.out _ undDesc.choose_spec rfl _ rfl ?_)
      | (refine build_to rfl 70 _ rfl (rowC 4 1 2 D (.slice A5 bl c5) [.int .i64 0, .int .i64 0, .int .i64 0, .int .i64 0] (.pointer none)).toArray (by rw [Array.toList_map]; exact HBU.out A5 bl c5) ?_)
      | (refine alloc_blk rfl 70 rfl _ rfl rowZ zeroRow ?_; intro g14 w7 hga hba hBa hsa; replace hS : HS NoF w w7 [.blk g14 70 rowZ, .blk g11 32 D, .os 5 (.slice A5 bl c5) (ints .u8 bs), .os 5 (.slice A3 m c3) (ints .u8 xs)] := hS.pushBlk hBa hba hga; clear hga hba hBa hsa)
      | (refine hs_storeW hS 0 rfl rfl 70 _ _ rfl rfl (rowC 4 1 2 D (.slice A5 bl c5) [.int .i64 0, .int .i64 0, .int .i64 0, .int .i64 0] (.pointer none)) rfl (rowC_one _ _ _ _ _ _ _ _ _ _ HD1.out rfl rfl) 108 sizeRow (rowC_get _ _ _ _ _ _ _ _ _ _ HDL.out _ rfl).1 rowZ_length _ rfl ?_; clear hS; intro w8 hS; replace hS : HS NoF w w8 [.blk g14 70 (rowC 4 1 2 D (.slice A5 bl c5) [.int .i64 0, .int .i64 0, .int .i64 0, .int .i64 0] (.pointer none)), .blk g11 32 D, .os 5 (.slice A5 bl c5) (ints .u8 bs), .os 5 (.slice A3 m c3) (ints .u8 xs)] := hS)
      | fail)
    refine (numN_calls at_ bl _ (by omega) (by omega)).mono ?_
    rintro e w9 ⟨aa, hu, rfl, hw9⟩
    subst hw9
    have hu2 : aa < bl := by omega
    clear hu
    obtain ⟨R, hR⟩ : ∃ R, rowC 4 1 2 D (.slice A5 bl c5) [.int .i64 0, .int .i64 aa, .int .i64 0, .int .i64 0] (.pointer none) = R := ⟨_, rfl⟩
    have HR := rowC_get _ _ _ _ _ _ _ _ _ _ HDL.out R hR
    have HRE := hid hR
    have HRL2 := hid HR.1
    have HR0 := hid HR.2.1
    have HR1 := hid HR.2.2.1
    have HR2 := hid HR.2.2.2.1
    have HR3 := hid (HR.2.2.2.2.1.trans HD00.out)
    have HR4 := hid (HR.2.2.2.2.2.1.trans HD01.out)
    have HR5 := hid (HR.2.2.2.2.2.2.1.trans HD02.out)
    have HR102 := hid HR.2.2.2.2.2.2.2.1
    have HR104 := hid HR.2.2.2.2.2.2.2.2.1
    have HR107 := hid HR.2.2.2.2.2.2.2.2.2
    clear HR hR
    go_wp2_with (first
      | (refine hs_store1 hS 0 rfl rfl 3 _ _ rfl 104 rfl (.int .i64 (aa : Int)) rfl rfl sizeIntM (by rw [(rowC_get _ _ _ _ _ _ _ _ _ _ HDL.out _ rfl).1]; decide) _ rfl ?_; clear hS; intro w10 hS; replace hS : HS NoF w w10 [.blk g14 70 ((rowC 4 1 2 D (.slice A5 bl c5) [.int .i64 0, .int .i64 0, .int .i64 0, .int .i64 0] (.pointer none)).set 104 (.int .i64 (aa : Int))), .blk g11 32 D, .os 5 (.slice A5 bl c5) (ints .u8 bs), .os 5 (.slice A3 m c3) (ints .u8 xs)] := hS; rw [rowC_set104 _ _ _ _ _ _ _ _ _ _ _ HDL.out, HRE.out] at hS; have c104 : w10.cell? ⟨g14, 104, none⟩ = some (.int .i64 (aa : Int)) := (hS.cell 0 rfl 104).trans HR104.out)
      | (refine alloc_blk rfl 72 rfl _ rfl (moveC 0 0 0 0 0 0) zeroMove ?_; intro g15 w12 hga hba hBa hsa; replace hS : HS NoF w w12 [.blk g15 72 (moveC 0 0 0 0 0 0), .blk g14 70 R, .blk g11 32 D, .os 5 (.slice A5 bl c5) (ints .u8 bs), .os 5 (.slice A3 m c3) (ints .u8 xs)] := hS.pushBlk hBa hba hga; clear hga hba hBa hsa)
      | (refine hs_storeW hS 0 rfl rfl 72 _ _ rfl rfl (moveC 4 1 2 m aa bl) rfl (moveC_one _ _ _ _ _ _) 6 sizeMove rfl rfl _ rfl ?_; clear hS; intro w13 hS; replace hS : HS NoF w w13 [.blk g15 72 (moveC 4 1 2 m aa bl), .blk g14 70 (R), .blk g11 32 D, .os 5 (.slice A5 bl c5) (ints .u8 bs), .os 5 (.slice A3 m c3) (ints .u8 xs)] := hS)
      | fail)
    try go_wp2_with fail
    refine wp_region_S (F := NoF) (w0 := w) (L0 := [.blk g15 72 (moveC 4 1 2 m aa bl), .blk g14 70 (R), .blk g11 32 D, .os 5 (.slice A5 bl c5) (ints .u8 bs), .os 5 (.slice A3 m c3) (ints .u8 xs)]) [1] []
      (fun iK u E => match iK with
        | 1 => u = .agg (moveC 4 1 2 m aa bl).toArray ∧ E = []
        | _ => False)
      ([]) (by kernel_rfl) (by kernel_rfl) hS ?_
    show wpS _ _ _ _ _ _ _ _ _ _ [0, 1, 2, 3] _
    apply wpS_read (i := 0) rfl rfl ⟨_, hS⟩ rfl -- Op.load 70 t14
    · intro w' hT'
      simp only [List.getElem_toArray, List.getElem_cons_zero, List.getElem_cons_succ]
      go_wp2_with (first
        | (refine hs_loadW hT' 1 rfl rfl 70 _ rfl rfl 108 sizeRow HRL2.out _ undRow.choose_spec rfl _ rfl ?_)
        | (refine hs_loadW hT' 0 rfl rfl 72 _ rfl rfl 6 sizeMove rfl _ undMove.choose_spec rfl _ rfl ?_)
        | (refine bin_to rfl _ _ _ _ _ rfl (moveC 4 1 2 m aa bl).toArray (moveC 4 1 2 m aa bl).toArray rfl rfl guardMove (.bool false) (move_neq _ _ _ _ _ _) _ rfl ?_)
        | fail)
      first | exact ⟨rfl, rfl, rfl⟩ | rfl
    refine wpS_soft (i := 1) rfl rfl rfl (Nat.le_of_ble_eq_true rfl) ?_ ?_ -- Op.call { value (Operand.func 31), args := #[t65], argTypes := #[70]
    · intro w' hT
      simp only [List.getElem_toArray, List.getElem_cons_zero, List.getElem_cons_succ]
      go_wp2_with (first
        | (go_at_call 31; refine (told_up R 4 m aa A5 bl c5 _ HRL2.out HR0.out HR1.out HR2.out HR4.out (by omega) HR102.out HR104.out HR107.out).mono ?_; rintro e w6 ⟨rfl, hB6⟩)
        | fail)
      exact SoftP.mk' (.agg (moveC 4 1 2 m aa bl).toArray) ([]) rfl (⟨rfl, rfl⟩) (hT.below hB6) (hB6) (fun _ h => by cases h)
    intro u1 E1 hK1
    obtain ⟨rfl, rfl⟩ := hK1
    simp only [Act.put, List.setIfInBounds_toArray, List.set_cons_zero, List.set_cons_succ]
    apply wpS_read (i := 2) rfl rfl ⟨_, hS⟩ rfl -- Op.load 72 t15
    · intro w' hT'
      simp only [List.getElem_toArray, List.getElem_cons_zero, List.getElem_cons_succ]
      go_wp2_with (first
        | (refine hs_loadW hT' 1 rfl rfl 70 _ rfl rfl 108 sizeRow HRL2.out _ undRow.choose_spec rfl _ rfl ?_)
        | (refine hs_loadW hT' 0 rfl rfl 72 _ rfl rfl 6 sizeMove rfl _ undMove.choose_spec rfl _ rfl ?_)
        | (refine bin_to rfl _ _ _ _ _ rfl (moveC 4 1 2 m aa bl).toArray (moveC 4 1 2 m aa bl).toArray rfl rfl guardMove (.bool false) (move_neq _ _ _ _ _ _) _ rfl ?_)
        | fail)
      first | exact ⟨rfl, rfl, rfl⟩ | rfl
    apply wpS_read (i := 3) rfl rfl ⟨_, hS⟩ rfl -- Op.binOp BinOp.neq 72 t66 t67 72
    · intro w' hT'
      simp only [List.getElem_toArray, List.getElem_cons_zero, List.getElem_cons_succ]
      go_wp2_with (first
        | (refine hs_loadW hT' 1 rfl rfl 70 _ rfl rfl 108 sizeRow HRL2.out _ undRow.choose_spec rfl _ rfl ?_)
        | (refine hs_loadW hT' 0 rfl rfl 72 _ rfl rfl 6 sizeMove rfl _ undMove.choose_spec rfl _ rfl ?_)
        | (refine bin_to rfl _ _ _ _ _ rfl (moveC 4 1 2 m aa bl).toArray (moveC 4 1 2 m aa bl).toArray rfl rfl guardMove (.bool false) (move_neq _ _ _ _ _ _) _ rfl ?_)
        | fail)
      first | exact ⟨rfl, rfl, rfl⟩ | rfl
    refine wpS_end ?_
    intro wz hT
    try dsimp only
    clear hS
    have hS : HS NoF w wz [.blk g15 72 (moveC 4 1 2 m aa bl), .blk g14 70 (R), .blk g11 32 D, .os 5 (.slice A5 bl c5) (ints .u8 bs), .os 5 (.slice A3 m c3) (ints .u8 xs)] := hT
    clear hT
    go_wp2_with fail
    have HBZ := hid (builtDescZ 9 (m : Nat) 10)
    have HZDL := hid (dscZ_length 9 (m : Nat) 10)
    have HZD1 := hid (descC_one 9 (m : Nat) 10 (List.replicate 32 0) (List.replicate 32 0) (List.replicate 32 0))
    have HZ01 : Hd ((dscZ 9 (m : Nat) 10)[1]? = some (.int .u32 (m : Int))) := hid rfl
    have HEND := hid fun (s : Nat) w => tend_calls R 4 1 s 9 m 10 none w HRL2.out HR0.out HR1.out HR3.out HR4.out HR5.out HR107.out (.inl rfl)
    change Hd (∀ v ∈ dscZ 9 (m : Nat) 10, v.oneCell' = true) at HZD1
    replace HEQ : Hd (∀ w, (binOp .neq 32 (.agg (dscZ 9 (m : Nat) 10).toArray) (.agg (dscZ 9 (m : Nat) 10).toArray)).run Tryd.prog w = .ok (.bool false) w) := hid (HEQ.out m)
    generalize dscZ 9 (m : Nat) 10 = DZ at *
    go_loopg [17] 4 (fun kq v17 wr => ∃ s : Nat, 3 ≤ s ∧ s ≤ 6 ∧ v17 = .int .i64 s ∧ Hd (kq + s = 7) ∧ HS NoF w wr [.blk g15 72 (moveC 4 1 2 m aa bl), .blk g14 70 (R), .blk g11 32 D, .os 5 (.slice A5 bl c5) (ints .u8 bs), .os 5 (.slice A3 m c3) (ints .u8 xs)])
    case atStart => exact ⟨3, by omega, by omega, rfl, hid rfl, hS⟩
    case round =>
      clear hS
      obtain ⟨s, hs3, hs6, rfl, hq, hS⟩ := hrel
      by_cases hlt : s ≤ 5
      · have hlt2 : (s : Int) ≤ 5 := by omega
        clear hlt
        go_wp2_with (first
            | (refine hs_loadW hS 1 rfl rfl 70 _ rfl rfl 108 sizeRow HRL2.out _ undRow.choose_spec rfl _ rfl ?_)
            | (go_at_call 32; refine (HEND.out s _).mono ?_; rintro e we ⟨rfl, hB⟩; replace hS := hS.below hB; clear hB)
            | (refine alloc_blk rfl 70 rfl _ rfl rowZ zeroRow ?_; intro g18 wa hga hba hBa hsa; replace hS := hS.pushBlk hBa hba hga; clear hga hba hBa hsa)
            | (refine hs_storeW hS 0 rfl rfl 70 _ _ rfl rfl (endC 4 1 s DZ (.slice none 0 0)) rfl (endC_one _ _ _ _ _ HZD1.out rfl) 108 sizeRow (endC_length _ _ _ _ _ HZDL.out) rowZ_length _ rfl ?_; clear hS; intro wb hS; replace hS : HS NoF w wb (.blk g18 70 (endC 4 1 s DZ (.slice none 0 0)) :: [.blk g15 72 (moveC 4 1 2 m aa bl), .blk g14 70 (R), .blk g11 32 D, .os 5 (.slice A5 bl c5) (ints .u8 bs), .os 5 (.slice A3 m c3) (ints .u8 xs)]) := hS)
            | fail)
        have HE := rowC_get 4 1 s DZ (.slice none 0 0) (.pointer none) 0 0 0 0 HZDL.out _ rfl
        have HEN := hid (rowC_D 4 1 s DZ (.slice none 0 0) (.pointer none) [.int .i64 0, .int .i64 0, .int .i64 0, .int .i64 0] HZDL.out)
        obtain ⟨E, hE⟩ : ∃ E, endC 4 1 s DZ (.slice none 0 0) = E := ⟨_, rfl⟩
        change _ at HE
        unfold endC at hE
        rw [hE] at HE HEN
        have HEL := hid HE.1
        have HE0 := hid HE.2.1
        have HE1 := hid HE.2.2.1
        have HE2 := hid HE.2.2.2.1
        have HE4 := hid (HE.2.2.2.2.2.1.trans HZ01.out)
        have HE102 := hid HE.2.2.2.2.2.2.2.1
        have HE107 := hid HE.2.2.2.2.2.2.2.2.2
        clear HE
        replace hS : HS NoF w wb (.blk g18 70 E :: [.blk g15 72 (moveC 4 1 2 m aa bl), .blk g14 70 (R), .blk g11 32 D, .os 5 (.slice A5 bl c5) (ints .u8 bs), .os 5 (.slice A3 m c3) (ints .u8 xs)]) := hE ▸ hS
        clear hE
        go_wp2_with fail
        try go_wp2_with fail
        refine wp_region_S (F := NoF) (w0 := w) (L0 := (.blk g18 70 E :: [.blk g15 72 (moveC 4 1 2 m aa bl), .blk g14 70 (R), .blk g11 32 D, .os 5 (.slice A5 bl c5) (ints .u8 bs), .os 5 (.slice A3 m c3) (ints .u8 xs)])) [1] []
          (fun iK u E => match iK with
            | 1 => u = .agg (moveC 4 1 s m 0 0).toArray ∧ E = []
            | _ => False)
          ([]) (by kernel_rfl) (by kernel_rfl) hS ?_
        show wpS _ _ _ _ _ _ _ _ _ _ [0, 1, 2, 3, 4, 5, 6, 7, 8, 9, 10, 11, 12, 13, 14, 15, 16, 17, 18, 19, 20, 21, 22, 23, 24, 25, 26, 27, 28, 29, 30, 31] _
        apply wpS_read (i := 0) rfl rfl ⟨_, hS⟩ rfl -- Op.load 70 t18
        · intro w' hT'
          simp only [List.getElem_toArray, List.getElem_cons_zero, List.getElem_cons_succ]
          have ck : w'.cell? ⟨g15, 1, none⟩ = some (.int .i64 1) := hT'.cell 1 rfl 1
          have cb : w'.cell? ⟨g18, 102, none⟩ = some (.slice none 0 0) := (hT'.cell 0 rfl 102).trans HE102.out
          go_wp2_with (first
            | (refine hs_loadW hT' 0 rfl rfl 70 _ rfl rfl 108 sizeRow HEL.out _ undRow.choose_spec rfl _ rfl ?_)
            | (refine hs_loadN hT' 0 rfl rfl 32 _ rfl 3 rfl DZ HEN.out 99 sizeDesc HZDL.out _ undDesc.choose_spec rfl _ rfl ?_)
            | (refine build_to rfl 32 _ rfl DZ.toArray (by rw [Array.toList_map]; exact HBZ.out) ?_)
            | (refine bin_to rfl _ _ _ _ _ rfl (moveC 4 1 s m 0 0).toArray (moveC 4 1 s m 0 0).toArray rfl rfl guardMove (.bool false) (move_neq _ _ _ _ _ _) _ rfl ?_)
            | (refine bin_to rfl _ _ _ _ _ rfl DZ.toArray DZ.toArray rfl rfl guardDesc (.bool false) HEQ.out _ rfl ?_)
            | fail)
          first | exact ⟨rfl, rfl, rfl⟩ | rfl
        refine wpS_soft (i := 1) rfl rfl rfl (Nat.le_of_ble_eq_true rfl) ?_ ?_ -- Op.call { value (Operand.func 31), args := #[t76], argTypes := #[70]
        · intro w' hT
          simp only [List.getElem_toArray, List.getElem_cons_zero, List.getElem_cons_succ]
          go_wp2_with (first
            | (go_at_call 31; refine (told_end E 4 1 s m _ HEL.out HE0.out HE1.out HE2.out HE4.out (by omega) HE107.out (by omega)).mono ?_; rintro e w6 ⟨rfl, hB6⟩)
            | fail)
          exact SoftP.mk' (.agg (moveC 4 1 s m 0 0).toArray) ([]) rfl (⟨rfl, rfl⟩) (hT.below hB6) (hB6) (fun _ h => by cases h)
        intro u1 E1 hK1
        obtain ⟨rfl, rfl⟩ := hK1
        simp only [Act.put, List.setIfInBounds_toArray, List.set_cons_zero, List.set_cons_succ]
        apply wpS_read (i := 2) rfl rfl ⟨_, hS⟩ rfl -- Op.fieldAddr 72 t15 1
        · intro w' hT'
          simp only [List.getElem_toArray, List.getElem_cons_zero, List.getElem_cons_succ]
          go_wp2_with fail
          first | exact ⟨rfl, rfl, rfl⟩ | rfl
        apply wpS_read (i := 3) rfl rfl ⟨_, hS⟩ rfl -- Op.load 3 t78
        · intro w' hT'
          simp only [List.getElem_toArray, List.getElem_cons_zero, List.getElem_cons_succ]
          have ck : w'.cell? ⟨g15, 1, none⟩ = some (.int .i64 1) := hT'.cell 1 rfl 1
          have cb : w'.cell? ⟨g18, 102, none⟩ = some (.slice none 0 0) := (hT'.cell 0 rfl 102).trans HE102.out
          go_wp2_with (first
            | (refine hs_loadW hT' 0 rfl rfl 70 _ rfl rfl 108 sizeRow HEL.out _ undRow.choose_spec rfl _ rfl ?_)
            | (refine hs_loadN hT' 0 rfl rfl 32 _ rfl 3 rfl DZ HEN.out 99 sizeDesc HZDL.out _ undDesc.choose_spec rfl _ rfl ?_)
            | (refine build_to rfl 32 _ rfl DZ.toArray (by rw [Array.toList_map]; exact HBZ.out) ?_)
            | (refine bin_to rfl _ _ _ _ _ rfl (moveC 4 1 s m 0 0).toArray (moveC 4 1 s m 0 0).toArray rfl rfl guardMove (.bool false) (move_neq _ _ _ _ _ _) _ rfl ?_)
            | (refine bin_to rfl _ _ _ _ _ rfl DZ.toArray DZ.toArray rfl rfl guardDesc (.bool false) HEQ.out _ rfl ?_)
            | fail)
          first | exact ⟨rfl, rfl, rfl⟩ | rfl
        apply wpS_read (i := 4) rfl rfl ⟨_, hS⟩ rfl -- Op.move t17
        · intro w' hT'
          simp only [List.getElem_toArray, List.getElem_cons_zero, List.getElem_cons_succ]
          go_wp2_with fail
          first | exact ⟨rfl, rfl, rfl⟩ | rfl
        apply wpS_read (i := 5) rfl rfl ⟨_, hS⟩ rfl -- Op.move t1
        · intro w' hT'
          simp only [List.getElem_toArray, List.getElem_cons_zero, List.getElem_cons_succ]
          go_wp2_with fail
          first | exact ⟨rfl, rfl, rfl⟩ | rfl
        apply wpS_read (i := 6) rfl rfl ⟨_, hS⟩ rfl -- Op.build 72 #[(0, const (4:i64)), (1, t79), (2, t80), (3, t81)]
        · intro w' hT'
          simp only [List.getElem_toArray, List.getElem_cons_zero, List.getElem_cons_succ]
          go_wp2_with (first
            | (refine hs_loadW hT' 0 rfl rfl 70 _ rfl rfl 108 sizeRow HEL.out _ undRow.choose_spec rfl _ rfl ?_)
            | (refine hs_loadN hT' 0 rfl rfl 32 _ rfl 3 rfl DZ HEN.out 99 sizeDesc HZDL.out _ undDesc.choose_spec rfl _ rfl ?_)
            | (refine build_to rfl 32 _ rfl DZ.toArray (by rw [Array.toList_map]; exact HBZ.out) ?_)
            | (refine bin_to rfl _ _ _ _ _ rfl (moveC 4 1 s m 0 0).toArray (moveC 4 1 s m 0 0).toArray rfl rfl guardMove (.bool false) (move_neq _ _ _ _ _ _) _ rfl ?_)
            | (refine bin_to rfl _ _ _ _ _ rfl DZ.toArray DZ.toArray rfl rfl guardDesc (.bool false) HEQ.out _ rfl ?_)
            | fail)
          first | exact ⟨rfl, rfl, rfl⟩ | rfl
        apply wpS_read (i := 7) rfl rfl ⟨_, hS⟩ rfl -- Op.binOp BinOp.neq 72 t77 t82 72
        · intro w' hT'
          simp only [List.getElem_toArray, List.getElem_cons_zero, List.getElem_cons_succ]
          go_wp2_with (first
            | (refine hs_loadW hT' 0 rfl rfl 70 _ rfl rfl 108 sizeRow HEL.out _ undRow.choose_spec rfl _ rfl ?_)
            | (refine hs_loadN hT' 0 rfl rfl 32 _ rfl 3 rfl DZ HEN.out 99 sizeDesc HZDL.out _ undDesc.choose_spec rfl _ rfl ?_)
            | (refine build_to rfl 32 _ rfl DZ.toArray (by rw [Array.toList_map]; exact HBZ.out) ?_)
            | (refine bin_to rfl _ _ _ _ _ rfl (moveC 4 1 s m 0 0).toArray (moveC 4 1 s m 0 0).toArray rfl rfl guardMove (.bool false) (move_neq _ _ _ _ _ _) _ rfl ?_)
            | (refine bin_to rfl _ _ _ _ _ rfl DZ.toArray DZ.toArray rfl rfl guardDesc (.bool false) HEQ.out _ rfl ?_)
            | fail)
          first | exact ⟨rfl, rfl, rfl⟩ | rfl
        apply wpS_read (i := 8) rfl rfl ⟨_, hS⟩ rfl -- Op.move t83
        · intro w' hT'
          simp only [List.getElem_toArray, List.getElem_cons_zero, List.getElem_cons_succ]
          go_wp2_with fail
          first | exact ⟨rfl, rfl, rfl⟩ | rfl
        apply wpS_read (i := 9) rfl rfl ⟨_, hS⟩ rfl -- Op.fieldAddr 70 t18 3
        · intro w' hT'
          simp only [List.getElem_toArray, List.getElem_cons_zero, List.getElem_cons_succ]
          go_wp2_with fail
          first | exact ⟨rfl, rfl, rfl⟩ | rfl
        apply wpS_read (i := 10) rfl rfl ⟨_, hS⟩ rfl -- Op.load 32 t85
        · intro w' hT'
          simp only [List.getElem_toArray, List.getElem_cons_zero, List.getElem_cons_succ]
          have ck : w'.cell? ⟨g15, 1, none⟩ = some (.int .i64 1) := hT'.cell 1 rfl 1
          have cb : w'.cell? ⟨g18, 102, none⟩ = some (.slice none 0 0) := (hT'.cell 0 rfl 102).trans HE102.out
          go_wp2_with (first
            | (refine hs_loadW hT' 0 rfl rfl 70 _ rfl rfl 108 sizeRow HEL.out _ undRow.choose_spec rfl _ rfl ?_)
            | (refine hs_loadN hT' 0 rfl rfl 32 _ rfl 3 rfl DZ HEN.out 99 sizeDesc HZDL.out _ undDesc.choose_spec rfl _ rfl ?_)
            | (refine build_to rfl 32 _ rfl DZ.toArray (by rw [Array.toList_map]; exact HBZ.out) ?_)
            | (refine bin_to rfl _ _ _ _ _ rfl (moveC 4 1 s m 0 0).toArray (moveC 4 1 s m 0 0).toArray rfl rfl guardMove (.bool false) (move_neq _ _ _ _ _ _) _ rfl ?_)
            | (refine bin_to rfl _ _ _ _ _ rfl DZ.toArray DZ.toArray rfl rfl guardDesc (.bool false) HEQ.out _ rfl ?_)
            | fail)
          first | exact ⟨rfl, rfl, rfl⟩ | rfl
        apply wpS_read (i := 11) rfl rfl ⟨_, hS⟩ rfl -- Op.move t1
        · intro w' hT'
          simp only [List.getElem_toArray, List.getElem_cons_zero, List.getElem_cons_succ]
          go_wp2_with fail
          first | exact ⟨rfl, rfl, rfl⟩ | rfl
        apply wpS_read (i := 12) rfl rfl ⟨_, hS⟩ rfl -- Op.convert 3 29 t87
        · intro w' hT'
          simp only [List.getElem_toArray, List.getElem_cons_zero, List.getElem_cons_succ]
          go_wp2_with (first
            | (refine hs_loadW hT' 0 rfl rfl 70 _ rfl rfl 108 sizeRow HEL.out _ undRow.choose_spec rfl _ rfl ?_)
            | (refine hs_loadN hT' 0 rfl rfl 32 _ rfl 3 rfl DZ HEN.out 99 sizeDesc HZDL.out _ undDesc.choose_spec rfl _ rfl ?_)
            | (refine build_to rfl 32 _ rfl DZ.toArray (by rw [Array.toList_map]; exact HBZ.out) ?_)
            | (refine bin_to rfl _ _ _ _ _ rfl (moveC 4 1 s m 0 0).toArray (moveC 4 1 s m 0 0).toArray rfl rfl guardMove (.bool false) (move_neq _ _ _ _ _ _) _ rfl ?_)
            | (refine bin_to rfl _ _ _ _ _ rfl DZ.toArray DZ.toArray rfl rfl guardDesc (.bool false) HEQ.out _ rfl ?_)
            | fail)
          first | exact ⟨rfl, rfl, rfl⟩ | rfl
        apply wpS_read (i := 13) rfl rfl ⟨_, hS⟩ rfl -- Op.build 32 #[(0, const (9:u32)), (1, t88), (2, const (10:u32))]
        · intro w' hT'
          simp only [List.getElem_toArray, List.getElem_cons_zero, List.getElem_cons_succ]
          go_wp2_with (first
            | (refine hs_loadW hT' 0 rfl rfl 70 _ rfl rfl 108 sizeRow HEL.out _ undRow.choose_spec rfl _ rfl ?_)
            | (refine hs_loadN hT' 0 rfl rfl 32 _ rfl 3 rfl DZ HEN.out 99 sizeDesc HZDL.out _ undDesc.choose_spec rfl _ rfl ?_)
            | (refine build_to rfl 32 _ rfl DZ.toArray (by rw [Array.toList_map]; exact HBZ.out) ?_)
            | (refine bin_to rfl _ _ _ _ _ rfl (moveC 4 1 s m 0 0).toArray (moveC 4 1 s m 0 0).toArray rfl rfl guardMove (.bool false) (move_neq _ _ _ _ _ _) _ rfl ?_)
            | (refine bin_to rfl _ _ _ _ _ rfl DZ.toArray DZ.toArray rfl rfl guardDesc (.bool false) HEQ.out _ rfl ?_)
            | fail)
          first | exact ⟨rfl, rfl, rfl⟩ | rfl
        apply wpS_read (i := 14) rfl rfl ⟨_, hS⟩ rfl -- Op.binOp BinOp.neq 32 t86 t89 32
        · intro w' hT'
          simp only [List.getElem_toArray, List.getElem_cons_zero, List.getElem_cons_succ]
          go_wp2_with (first
            | (refine hs_loadW hT' 0 rfl rfl 70 _ rfl rfl 108 sizeRow HEL.out _ undRow.choose_spec rfl _ rfl ?_)
            | (refine hs_loadN hT' 0 rfl rfl 32 _ rfl 3 rfl DZ HEN.out 99 sizeDesc HZDL.out _ undDesc.choose_spec rfl _ rfl ?_)
            | (refine build_to rfl 32 _ rfl DZ.toArray (by rw [Array.toList_map]; exact HBZ.out) ?_)
            | (refine bin_to rfl _ _ _ _ _ rfl (moveC 4 1 s m 0 0).toArray (moveC 4 1 s m 0 0).toArray rfl rfl guardMove (.bool false) (move_neq _ _ _ _ _ _) _ rfl ?_)
            | (refine bin_to rfl _ _ _ _ _ rfl DZ.toArray DZ.toArray rfl rfl guardDesc (.bool false) HEQ.out _ rfl ?_)
            | fail)
          first | exact ⟨rfl, rfl, rfl⟩ | rfl
        apply wpS_read (i := 15) rfl rfl ⟨_, hS⟩ rfl -- Op.pick t84 (const (Value.bool true)) t90
        · intro w' hT'
          simp only [List.getElem_toArray, List.getElem_cons_zero, List.getElem_cons_succ]
          go_wp2_with fail
          first | exact ⟨rfl, rfl, rfl⟩ | rfl
        apply wpS_read (i := 16) rfl rfl ⟨_, hS⟩ rfl -- Op.move t91
        · intro w' hT'
          simp only [List.getElem_toArray, List.getElem_cons_zero, List.getElem_cons_succ]
          go_wp2_with fail
          first | exact ⟨rfl, rfl, rfl⟩ | rfl
        apply wpS_read (i := 17) rfl rfl ⟨_, hS⟩ rfl -- Op.fieldAddr 70 t18 4
        · intro w' hT'
          simp only [List.getElem_toArray, List.getElem_cons_zero, List.getElem_cons_succ]
          go_wp2_with fail
          first | exact ⟨rfl, rfl, rfl⟩ | rfl
        apply wpS_read (i := 18) rfl rfl ⟨_, hS⟩ rfl -- Op.load 24 t93
        · intro w' hT'
          simp only [List.getElem_toArray, List.getElem_cons_zero, List.getElem_cons_succ]
          have ck : w'.cell? ⟨g15, 1, none⟩ = some (.int .i64 1) := hT'.cell 1 rfl 1
          have cb : w'.cell? ⟨g18, 102, none⟩ = some (.slice none 0 0) := (hT'.cell 0 rfl 102).trans HE102.out
          go_wp2_with (first
            | (refine hs_loadW hT' 0 rfl rfl 70 _ rfl rfl 108 sizeRow HEL.out _ undRow.choose_spec rfl _ rfl ?_)
            | (refine hs_loadN hT' 0 rfl rfl 32 _ rfl 3 rfl DZ HEN.out 99 sizeDesc HZDL.out _ undDesc.choose_spec rfl _ rfl ?_)
            | (refine build_to rfl 32 _ rfl DZ.toArray (by rw [Array.toList_map]; exact HBZ.out) ?_)
            | (refine bin_to rfl _ _ _ _ _ rfl (moveC 4 1 s m 0 0).toArray (moveC 4 1 s m 0 0).toArray rfl rfl guardMove (.bool false) (move_neq _ _ _ _ _ _) _ rfl ?_)
            | (refine bin_to rfl _ _ _ _ _ rfl DZ.toArray DZ.toArray rfl rfl guardDesc (.bool false) HEQ.out _ rfl ?_)
            | fail)
          first | exact ⟨rfl, rfl, rfl⟩ | rfl
        apply wpS_read (i := 19) rfl rfl ⟨_, hS⟩ rfl -- Op.call { builtin len, args := #[t94], argTypes := #[24] }
        · intro w' hT'
          simp only [List.getElem_toArray, List.getElem_cons_zero, List.getElem_cons_succ]
          go_wp2_with fail
          first | exact ⟨rfl, rfl, rfl⟩ | rfl
        apply wpS_read (i := 20) rfl rfl ⟨_, hS⟩ rfl -- Op.binOp BinOp.gtr 3 t95 (const (0:i64)) 3
        · intro w' hT'
          simp only [List.getElem_toArray, List.getElem_cons_zero, List.getElem_cons_succ]
          go_wp2_with (first
            | (refine hs_loadW hT' 0 rfl rfl 70 _ rfl rfl 108 sizeRow HEL.out _ undRow.choose_spec rfl _ rfl ?_)
            | (refine hs_loadN hT' 0 rfl rfl 32 _ rfl 3 rfl DZ HEN.out 99 sizeDesc HZDL.out _ undDesc.choose_spec rfl _ rfl ?_)
            | (refine build_to rfl 32 _ rfl DZ.toArray (by rw [Array.toList_map]; exact HBZ.out) ?_)
            | (refine bin_to rfl _ _ _ _ _ rfl (moveC 4 1 s m 0 0).toArray (moveC 4 1 s m 0 0).toArray rfl rfl guardMove (.bool false) (move_neq _ _ _ _ _ _) _ rfl ?_)
            | (refine bin_to rfl _ _ _ _ _ rfl DZ.toArray DZ.toArray rfl rfl guardDesc (.bool false) HEQ.out _ rfl ?_)
            | fail)
          first | exact ⟨rfl, rfl, rfl⟩ | rfl
        apply wpS_read (i := 21) rfl rfl ⟨_, hS⟩ rfl -- Op.move t3
        · intro w' hT'
          simp only [List.getElem_toArray, List.getElem_cons_zero, List.getElem_cons_succ]
          go_wp2_with fail
          first | exact ⟨rfl, rfl, rfl⟩ | rfl
        apply wpS_read (i := 22) rfl rfl ⟨_, hS⟩ rfl -- Op.move t97
        · intro w' hT'
          simp only [List.getElem_toArray, List.getElem_cons_zero, List.getElem_cons_succ]
          go_wp2_with fail
          first | exact ⟨rfl, rfl, rfl⟩ | rfl
        apply wpS_read (i := 23) rfl rfl ⟨_, hS⟩ rfl -- Op.move t17
        · intro w' hT'
          simp only [List.getElem_toArray, List.getElem_cons_zero, List.getElem_cons_succ]
          go_wp2_with fail
          first | exact ⟨rfl, rfl, rfl⟩ | rfl
        apply wpS_read (i := 24) rfl rfl ⟨_, hS⟩ rfl -- Op.binOp BinOp.eql 3 t99 (const (3:i64)) 3
        · intro w' hT'
          simp only [List.getElem_toArray, List.getElem_cons_zero, List.getElem_cons_succ]
          go_wp2_with (first
            | (refine hs_loadW hT' 0 rfl rfl 70 _ rfl rfl 108 sizeRow HEL.out _ undRow.choose_spec rfl _ rfl ?_)
            | (refine hs_loadN hT' 0 rfl rfl 32 _ rfl 3 rfl DZ HEN.out 99 sizeDesc HZDL.out _ undDesc.choose_spec rfl _ rfl ?_)
            | (refine build_to rfl 32 _ rfl DZ.toArray (by rw [Array.toList_map]; exact HBZ.out) ?_)
            | (refine bin_to rfl _ _ _ _ _ rfl (moveC 4 1 s m 0 0).toArray (moveC 4 1 s m 0 0).toArray rfl rfl guardMove (.bool false) (move_neq _ _ _ _ _ _) _ rfl ?_)
            | (refine bin_to rfl _ _ _ _ _ rfl DZ.toArray DZ.toArray rfl rfl guardDesc (.bool false) HEQ.out _ rfl ?_)
            | fail)
          first | exact ⟨rfl, rfl, rfl⟩ | rfl
        apply wpS_read (i := 25) rfl rfl ⟨_, hS⟩ rfl -- Op.pick t98 t100 (const (Value.bool false))
        · intro w' hT'
          simp only [List.getElem_toArray, List.getElem_cons_zero, List.getElem_cons_succ]
          go_wp2_with fail
          first | exact ⟨rfl, rfl, rfl⟩ | rfl
        apply wpS_read (i := 26) rfl rfl ⟨_, hS⟩ rfl -- Op.move t101
        · intro w' hT'
          simp only [List.getElem_toArray, List.getElem_cons_zero, List.getElem_cons_succ]
          go_wp2_with fail
          first | exact ⟨rfl, rfl, rfl⟩ | rfl
        apply wpS_read (i := 27) rfl rfl ⟨_, hS⟩ rfl -- Op.move t1
        · intro w' hT'
          simp only [List.getElem_toArray, List.getElem_cons_zero, List.getElem_cons_succ]
          go_wp2_with fail
          first | exact ⟨rfl, rfl, rfl⟩ | rfl
        apply wpS_read (i := 28) rfl rfl ⟨_, hS⟩ rfl -- Op.binOp BinOp.gtr 3 t103 (const (0:i64)) 3
        · intro w' hT'
          simp only [List.getElem_toArray, List.getElem_cons_zero, List.getElem_cons_succ]
          go_wp2_with (first
            | (refine hs_loadW hT' 0 rfl rfl 70 _ rfl rfl 108 sizeRow HEL.out _ undRow.choose_spec rfl _ rfl ?_)
            | (refine hs_loadN hT' 0 rfl rfl 32 _ rfl 3 rfl DZ HEN.out 99 sizeDesc HZDL.out _ undDesc.choose_spec rfl _ rfl ?_)
            | (refine build_to rfl 32 _ rfl DZ.toArray (by rw [Array.toList_map]; exact HBZ.out) ?_)
            | (refine bin_to rfl _ _ _ _ _ rfl (moveC 4 1 s m 0 0).toArray (moveC 4 1 s m 0 0).toArray rfl rfl guardMove (.bool false) (move_neq _ _ _ _ _ _) _ rfl ?_)
            | (refine bin_to rfl _ _ _ _ _ rfl DZ.toArray DZ.toArray rfl rfl guardDesc (.bool false) HEQ.out _ rfl ?_)
            | fail)
          first | exact ⟨rfl, rfl, rfl⟩ | rfl
        apply wpS_read (i := 29) rfl rfl ⟨_, hS⟩ rfl -- Op.pick t102 t104 (const (Value.bool false))
        · intro w' hT'
          simp only [List.getElem_toArray, List.getElem_cons_zero, List.getElem_cons_succ]
          go_wp2_with fail
          first | exact ⟨rfl, rfl, rfl⟩ | rfl
        apply wpS_read (i := 30) rfl rfl ⟨_, hS⟩ rfl -- Op.binOp BinOp.neq 4 t96 t105 4
        · intro w' hT'
          simp only [List.getElem_toArray, List.getElem_cons_zero, List.getElem_cons_succ]
          go_wp2_with (first
            | (refine hs_loadW hT' 0 rfl rfl 70 _ rfl rfl 108 sizeRow HEL.out _ undRow.choose_spec rfl _ rfl ?_)
            | (refine hs_loadN hT' 0 rfl rfl 32 _ rfl 3 rfl DZ HEN.out 99 sizeDesc HZDL.out _ undDesc.choose_spec rfl _ rfl ?_)
            | (refine build_to rfl 32 _ rfl DZ.toArray (by rw [Array.toList_map]; exact HBZ.out) ?_)
            | (refine bin_to rfl _ _ _ _ _ rfl (moveC 4 1 s m 0 0).toArray (moveC 4 1 s m 0 0).toArray rfl rfl guardMove (.bool false) (move_neq _ _ _ _ _ _) _ rfl ?_)
            | (refine bin_to rfl _ _ _ _ _ rfl DZ.toArray DZ.toArray rfl rfl guardDesc (.bool false) HEQ.out _ rfl ?_)
            | fail)
          first | exact ⟨rfl, rfl, rfl⟩ | rfl
        apply wpS_read (i := 31) rfl rfl ⟨_, hS⟩ rfl -- Op.pick t92 (const (Value.bool true)) t106
        · intro w' hT'
          simp only [List.getElem_toArray, List.getElem_cons_zero, List.getElem_cons_succ]
          go_wp2_with fail
          first | exact ⟨rfl, rfl, rfl⟩ | rfl
        refine wpS_end ?_
        intro wz hT
        try dsimp only
        clear hS
        have hS : HS NoF w wz (.blk g18 70 E :: [.blk g15 72 (moveC 4 1 2 m aa bl), .blk g14 70 (R), .blk g11 32 D, .os 5 (.slice A5 bl c5) (ints .u8 bs), .os 5 (.slice A3 m c3) (ints .u8 xs)]) := hT
        clear hT
        go_wp2_with fail
        go_roundg (gk - 1)
        case measure => have := hq.out; omega
        case rel => exact ⟨s + 1, by omega, by omega, by go_num, hid (by have := hq.out; omega), hS.erase 0⟩
      · have hlt2 : ¬ (s : Int) ≤ 5 := by omega
        go_wp2_with fail
        go_ret
        exact ⟨rfl, hS.bel⟩
end Go.Proofs.YtckcdngnkpfcfaaDoor
