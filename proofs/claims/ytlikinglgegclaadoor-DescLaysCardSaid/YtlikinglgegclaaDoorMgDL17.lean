import Derived.OwnWalk
import Derived.Laws.OwnMore
import Derived.Test.YtlikinglgegclaaDoorMgDL0
import Derived.Test.YtlikinglgegclaaDoorMgDL1
import Derived.Test.YtlikinglgegclaaDoorMgDL2
import Derived.Test.YtlikinglgegclaaDoorMgDL3
import Derived.Test.YtlikinglgegclaaDoorMgDL4
import Derived.Test.YtlikinglgegclaaDoorMgDL5
import Derived.Test.YtlikinglgegclaaDoorMgDL6
import Derived.Test.YtlikinglgegclaaDoorMgDL7
import Derived.Test.YtlikinglgegclaaDoorMgDL8
import Derived.Test.YtlikinglgegclaaDoorMgDL9
import Derived.Test.YtlikinglgegclaaDoorMgDL10
import Derived.Test.YtlikinglgegclaaDoorMgDL11
import Derived.Test.YtlikinglgegclaaDoorMgDL12
import Derived.Test.YtlikinglgegclaaDoorMgDL13
import Derived.Test.YtlikinglgegclaaDoorMgDL14
import Derived.Test.YtlikinglgegclaaDoorMgDL15
import Derived.Test.YtlikinglgegclaaDoorMgDL16
set_option linter.unusedSimpArgs false
set_option linter.unusedVariables false
/- make([]T, n). -/
namespace Go.Cour
open Go.RowKit
section
variable {P : Program} {w : World} {ops : Array Oper} {rest : List Oper} {o : Oper} {a : Act} {Q : Exit → Act → World → Prop}
/-- make([]T, n), T whole numbers. -/
theorem make_zeros (hg : o.guard = none) (l c : Operand) (t : TypeId) (hop : o.op = Op.makeSlice t l c) (e : TypeId) (k : IntKind) (bytes : Nat) (h1 : P.underlying t = some (.slice e))
    (hi : (P.info? e).map (fun i => (i.zero, i.size, i.bytes)) = some (some (.int k 0), 1, bytes)) (kl kc : IntKind) (L C : Int) (n : Nat) (hl : a.eval l = .int kl L) (hc : a.eval c = .int kc C) (hL : L = (n : Int)) (hC : C = (n : Int)) (b2 : bytes * n ≤ 281474976710656) (b3 : n ≤ maxLen)
    (hK : ∀ g w', w.heap.size = g → Own w' g e k (.slice (some ⟨g, 0, none⟩) n n) (List.replicate n 0) → Below w.heap.size w w' → wpList P ops Q rest (a.put o.dst (.slice (some ⟨g, 0, none⟩) n n)) w') : wpList P ops Q (o :: rest) a w := by
  obtain ⟨i, hi0, hz0, hz1, hz2⟩ := info_parts hi
  refine wpList_make_full w hg l c t hop w.heap.size e i (.int k 0) 1 h1 hi0 hz0 hz1 kl kc L C n hl hc hL hC (by rw [hz2]; exact b2) b3 (Nat.le_refl _) fun w' ho hg' => ?_
  refine hK w.heap.size w' rfl ?_ ⟨hg'.os, hg'.tape, hg'.output, hg'.size, fun j hj => hg'.block j hj (by simp)⟩
  have hm : (madeCells (Value.int k 0).cells (n * 1)).toList = ints k (List.replicate n 0) := by
    rw [Nat.mul_one]
    show (madeCells #[Value.int k 0] n).toList = _
    rw [toList_madeCells_one]
    simp [ints]
  unfold Own
  rw [List.length_replicate, ← hm]
  exact ho
end
end Go.Cour
/- The law DescLays. -/
namespace Go.Proofs.YtlikinglgegclaaDoor
open Go.RowKit Go.Cour
/-- A number from 0 to below a bound, as a letter. -/
theorem numD_calls (a b : Int) (w : World) (hb : 0 < b) (hb2 : b < 4611686018427387904) : Calls Tryd.prog 7 #[.int .i64 a, .int .i64 b] w fun e w' => ∃ k : Nat, (k : Int) < b ∧ e = .returned (.int .i64 (k : Int)) ∧ w = w' :=
  (number_calls a b w hb hb2).mono fun e w' ⟨h1, h2⟩ => ⟨(a % b).toNat, by have := Int.emod_nonneg a (show b ≠ 0 by omega); have := Int.emod_lt_of_pos a hb; omega, by rw [h1]; have := Int.emod_nonneg a (show b ≠ 0 by omega); congr 2; omega, h2.symm⟩
theorem bin_toD {P : Program} {ops : Array Oper} {rest : List Oper} {o : Oper} {a : Act} {w : World} {Q : Exit → Act → World → Prop} (hw : Region.wanted o (yielded ops a.tmps) = true) (op : BinOp) (t t' : TypeId) (x y : Operand) (ho : o.op = .binOp op t x y t') (xs ys : Array Value)
    (hx : a.eval x = .agg xs) (hy : a.eval y = .agg ys) (hm : P.eqGuardType P.depth t = false) (r : Value) (hr : ∀ w, (binOp op t (.agg xs) (.agg ys)).run P w = .ok r w) (d : Option Tmp) (hd : o.dst = d) (h : wpList P ops Q rest (a.put d r) w) : wpList P ops Q (o :: rest) a w := by
  subst hd
  refine wpList_step fun K hK => ?_
  rw [if_pos hw]
  unfold Oper.wp execOp
  have hg := run_eqGuard_agg (P := P) w op t x y xs ys hm
  simp only [ho, hx, hy]
  simp [hg, hr]
  exact hK _ _ h
theorem guardHash : Tryd.prog.eqGuardType Tryd.prog.depth 30 = false := by kernel_rfl
theorem guardKey : Tryd.prog.eqGuardType Tryd.prog.depth 27 = false := by kernel_rfl
theorem hash_neq (xs : List Int) (h : xs.length = 32) (w : World) : (binOp .neq 30 (.agg (ints .u8 xs).toArray) (.agg (ints .u8 xs).toArray)).run Tryd.prog w = .ok (.bool false) w := by
  rw [run_neq_struct, run_equalIn_ints (P := Tryd.prog) w 9998 30 5 32 .u8 arrHashD undU8D sizeU8D xs xs h h]; simp
theorem hash_eql (xs : List Int) (h : xs.length = 32) (w : World) : (binOp .eql 30 (.agg (ints .u8 xs).toArray) (.agg (ints .u8 xs).toArray)).run Tryd.prog w = .ok (.bool true) w := by
  rw [run_eql_struct, run_equalIn_ints (P := Tryd.prog) w 9998 30 5 32 .u8 arrHashD undU8D sizeU8D xs xs h h]; simp
theorem key_neq (xs : List Int) (h : xs.length = 32) (w : World) : (binOp .neq 27 (.agg (ints .u8 xs).toArray) (.agg (ints .u8 xs).toArray)).run Tryd.prog w = .ok (.bool false) w := by
  rw [run_neq_struct, run_equalIn_ints (P := Tryd.prog) w 9998 27 5 32 .u8 arrKeyD undU8D sizeU8D xs xs h h]; simp
theorem zeroKeyD : ((Tryd.prog.info? 27).bind (·.zero)).map (·.cells) = some (ints .u8 (List.replicate 32 0)).toArray := by kernel_rfl
theorem many_q (m q N : Nat) (hq : 1 ≤ q) (h : countI m q = (N : Int)) : (((m : Int) + q - 1) / q = (N : Int)) ∨ (((m : Int) + q - 1) / q = 0 ∧ N = 1) := by
  obtain ⟨d, h1, h2, h3, h4, h5⟩ := count_facts m q (by omega)
  rw [h5] at h
  have hq0 : (0 : Int) < q := by omega
  by_cases hd : d * q < m
  · rw [if_pos hd] at h
    left
    have e : ((m : Int) + q - 1) / q = d + 1 := by
      refine Int.le_antisymm ?_ ?_
      · refine Int.le_of_lt_add_one ((Int.ediv_lt_iff_lt_mul hq0).2 ?_)
        have : (d + 1 + 1) * (q : Int) = (d + 1) * q + q := by rw [Int.add_mul (d + 1), Int.one_mul]
        omega
      · refine (Int.le_ediv_iff_mul_le hq0).2 ?_
        have : (d + 1) * (q : Int) = d * q + q := by rw [Int.add_mul, Int.one_mul]
        omega
    rw [e]; omega
  · rw [if_neg hd] at h
    have e : ((m : Int) + q - 1) / q = d := by
      refine Int.le_antisymm ?_ ?_
      · refine Int.le_of_lt_add_one ((Int.ediv_lt_iff_lt_mul hq0).2 ?_)
        have : (d + 1) * (q : Int) = d * q + q := by rw [Int.add_mul, Int.one_mul]
        omega
      · refine (Int.le_ediv_iff_mul_le hq0).2 ?_
        omega
    rw [e]; omega
/-- s[p:h], p the capacity itself perhaps. -/
theorem slice_anyD {P : Program} {w : World} {ops : Array Oper} {rest : List Oper} {o : Oper} {a : Act} {Q : Exit → Act → World → Prop} (hw : Region.wanted o (yielded ops a.tmps) = true) (x y z : Operand) (t : TypeId) (ho : o.op = .slice t x (some y) (some z) none) (e : TypeId)
    (hu : P.underlying t = some (.slice e)) (hsz : (P.info? e).map (·.size) = some 1) (A : Option Addr) (m c p h n : Nat) (hx : a.eval x = .slice A m c) (hy : a.eval y = .int .i64 (p : Int)) (hz : a.eval z = .int .i64 (h : Int)) (hph : p ≤ h) (hhc : h ≤ c) (hn : h - p = n) (d : Option Tmp) (hd : o.dst = d)
    (hk : wpList P ops Q rest (a.put d (.slice (cutA A c p) n (c - p))) w) : wpList P ops Q (o :: rest) a w := by
  subst hd hn
  obtain ⟨i, hi, hs⟩ : ∃ i, P.info? e = some i ∧ i.size = 1 := by
    cases hie : P.info? e with
    | none => simp [hie] at hsz
    | some i => exact ⟨i, rfl, by simpa [hie] using hsz⟩
  refine wpList_step fun K hK => ?_
  rw [if_pos hw]
  have hs2 : (sizeOf e).run P w = .ok 1 w := by simp [sizeOf, typeInfo, hi, hs]
  have hrun : (Instr.slice t (.slice A m c) (some (.int .i64 (p : Int))) (some (.int .i64 (h : Int))) none).run P w = .ok (.slice (cutA A c p) (h - p) (c - p)) w := by
    simp [Instr.slice, run_underlying hu, Instr.sliceBounds, run_sliceBound, hs2, hph, hhc, cutA]
  have hrun2 : (Instr.sliceAt t (.slice A m c) (some (.int .i64 (p : Int))) (some (.int .i64 (h : Int))) none).run P w = .ok (.slice (cutA A c p) (h - p) (c - p)) w := by
    rw [← hrun]; simp [Instr.sliceAt, run_underlying hu]
  unfold Oper.wp execOp
  simp only [ho, hx, hy, hz, Option.map_some, Option.map_none]
  simp [hrun2]
  exact hK _ _ hk
theorem os_sub {w : World} {e : TypeId} {A : Option Addr} {n c p len : Nat} {bs X : List Int} (h : OwnS w e (.slice A n c) (ints .u8 bs)) (hp : p ≤ n) (hX : (bs.drop p).take len = X) : Rd w (cutA A c p) .u8 X := by
  have h1 := h.cut p hp
  rw [← ints_drop] at h1
  have h2 := (h1.rd rfl).take len
  rwa [hX] at h2
theorem descC_D3 {id m q : Int} {k r b : List Int} (hk : k.length = 32) : ∀ j v, (ints .u8 k)[j]? = some v → (descC id m q k r b)[3 + j]? = some v := fun j v hj => by
  have hlt := (List.getElem?_eq_some_iff.1 hj).1
  unfold descC
  rw [List.append_assoc, List.append_assoc, List.getElem?_append_right (by simp), show 3 + j - [Value.int .u32 id, .int .u32 m, .int .u32 q].length = j by simp, List.getElem?_append_left hlt]
  exact hj
theorem descC_D35 {id m q : Int} {k r b : List Int} (hk : k.length = 32) : ∀ j v, (ints .u8 r)[j]? = some v → (descC id m q k r b)[35 + j]? = some v := fun j v hj => by
  have hlt := (List.getElem?_eq_some_iff.1 hj).1
  unfold descC
  rw [List.append_assoc, List.getElem?_append_right (by simp [hk]), show 35 + j - ([Value.int .u32 id, .int .u32 m, .int .u32 q] ++ ints .u8 k).length = j by simp [hk], List.getElem?_append_left hlt]
  exact hj
theorem descC_D67 {id m q : Int} {k r b : List Int} (hk : k.length = 32) (hr : r.length = 32) : ∀ j v, (ints .u8 b)[j]? = some v → (descC id m q k r b)[67 + j]? = some v := fun j v hj => by
  unfold descC
  rw [List.getElem?_append_right (by simp [hk, hr]), show 67 + j - ([Value.int .u32 id, .int .u32 m, .int .u32 q] ++ ints .u8 k ++ ints .u8 r).length = j by simp [hk, hr]]
  exact hj
set_option maxHeartbeats 16000000 in
set_option maxRecDepth 100000 in
theorem descLays_calls (n_ size chunk : Int) {w : World} {P : Nat → Addr} (hE : Errs w P) :
    Calls Tryd.prog 3 #[.int .i64 n_, .int .i64 size, .int .i64 chunk] w fun e w' => e = .returned (.bool true) ∧ Below w.heap.size w w' := by
  have hS := HS.start NoF w
  have HE := hid hE
  have hnn := nil_neqD
  clear hE
  go_enter Tryd.func3, Tryd.ntmps3
  go_wp2_with (first
    | (go_at_call 6; refine (first19_calls HE.out).mono ?_; rintro e w1 ⟨rfl, hB⟩; replace hS := hS.below hB; clear hB)
    | fail)
  refine (numD_calls size 300 _ (by omega) (by omega)).mono ?_
  rintro e w2 ⟨m, hm, rfl, hw2⟩
  subst hw2
  have hm1 : m < 300 := by omega
  clear hm
  go_wp2_with fail
  refine (numD_calls chunk 64 _ (by omega) (by omega)).mono ?_
  rintro e w2 ⟨kk, hkk, rfl, hw2⟩
  subst hw2
  obtain ⟨q, hq⟩ : ∃ q : Nat, (kk : Int) + 1 = (q : Int) := ⟨kk + 1, by omega⟩
  have hq1 : 1 ≤ q := by omega
  have hq2 : q ≤ 64 := by omega
  clear hkk
  obtain ⟨N, hN⟩ : ∃ N : Nat, Hd (countI m q = (N : Int)) := ⟨(countI m q).toNat, hid (by have := (countI_bounds m q).1; omega)⟩
  have hNb : 1 ≤ N ∧ N ≤ 300 := by have := countI_bounds m q; have := hN.out; omega
  obtain ⟨xs, hxs⟩ : ∃ xs, Hd (fileTo n_ m = xs) := ⟨_, hid rfl⟩
  have HX := hid (fileTo_length n_ m)
  have RX := hid (fileTo_ok n_ m)
  obtain ⟨K, hK⟩ : ∃ K, Hd (keyOf n_ = K) := ⟨_, hid rfl⟩
  have HK := hid (keyOf_length n_)
  have RK := hid (keyOf_ok n_)
  rw [hxs.out] at HX RX
  rw [hK.out] at HK RK
  have HNX : Hd (countI xs.length q = (N : Int)) := hid (by rw [HX.out]; exact hN.out)
  have HTS : Hd ((allTexts K xs q).length = N) := hid (by rw [allTexts, allTo_length, HX.out, hN.out]; omega)
  have HTO := hid (allTexts_ok K xs q RX.out (by omega))
  have HBL : Hd ((blobOf (allTexts K xs q)).length = N * 48 + m) := hid (by rw [blob_len K xs q N hq1 HNX.out, HX.out])
  have HBB : Hd (∀ x ∈ blobOf (allTexts K xs q), B8 x) := hid (B8_append (flat_B8 fun X hX => (hashesOf_H32 _ X hX).2) (flat_B8 fun X hX => (HTO.out X hX).2))
  have HRL : Hd ((rootOf (hashesOf (allTexts K xs q))).length = 32) := hid (rootF_H32 _ _ (hashesOf_H32 _)).1
  have HRE : Hd (rootF N (hashesOf (allTexts K xs q)) = rootOf (hashesOf (allTexts K xs q))) := hid (rootF_eq _ _ _ (by unfold hashesOf; rw [List.length_map, HTS.out]; omega) (Nat.le_refl _))
  have HH32 := hid (hashesOf_H32 (allTexts K xs q))
  have HHL : Hd ((hashesOf (allTexts K xs q)).length = N) := hid (by unfold hashesOf; rw [List.length_map, HTS.out])
  have HSL : Hd ((shaOf (blobOf (allTexts K xs q))).length = 32) := hid (shaOf_length _)
  have HMK := hid fun A c w hA hc hr => makeP_calls K xs q q A m c w HK.out RK.out RX.out HX.out hA hc hr (by omega) (by omega) (by omega)
  have HLF : Hd (∀ i X, (allTexts K xs q)[i]? = some X → ((blobOf (allTexts K xs q)).drop (32 * i)).take 32 = leafOf X) := hid fun i X h => blob_leaf _ i X h
  have HHS : Hd (∀ i X, (allTexts K xs q)[i]? = some X → (hashesOf (allTexts K xs q))[i]? = some (leafOf X)) := hid fun i X h => by unfold hashesOf; rw [List.getElem?_map, h]; rfl
  have HCH : Hd (∀ i, i < N → i * q ≤ m ∧ (pieceOf xs q i) = (xs.drop (i * q)).take q ∧ (pieceOf xs q i).length = min q (m - i * q) ∧ ∃ X, (allTexts K xs q)[i]? = some X ∧ X = ssealText K i ((i : Int) == (N : Int) - 1) (pieceOf xs q i) ∧ ((blobOf (allTexts K xs q)).drop (N * 32 + i * 16 + i * q)).take X.length = X) := hid fun i hi => by
    obtain ⟨h1, h2, h3⟩ := piece_at xs q N hq1 HNX.out i hi
    rw [HX.out] at h1 h3
    have h4 := text_at K xs q N HNX.out i hi
    refine ⟨h1, h2, h3, _, h4, rfl, blob_chunk _ i _ _ h4 ?_⟩
    rw [HTS.out, texts_take K xs q N HNX.out i (by omega), texts_flat K xs q N hq1 HNX.out i (by omega), HX.out, Nat.min_eq_left h1]
    omega
  have HTA := hid (take_all xs q N (by omega) HNX.out)
  obtain ⟨bs, hbs⟩ : ∃ bs, Hd (blobOf (allTexts K xs q) = bs) := ⟨_, hid rfl⟩
  obtain ⟨RT, hRT⟩ : ∃ RT, Hd (rootOf (hashesOf (allTexts K xs q)) = RT) := ⟨_, hid rfl⟩
  obtain ⟨SH, hSH⟩ : ∃ SH, Hd (shaOf bs = SH) := ⟨_, hid rfl⟩
  obtain ⟨hs, hhs⟩ : ∃ hs, Hd (hashesOf (allTexts K xs q) = hs) := ⟨_, hid rfl⟩
  rw [hbs.out] at HSL HBL HBB HLF HMK
  simp only [hbs.out] at HCH
  rw [hSH.out] at HSL HMK
  rw [hRT.out] at HRL HMK HRE
  rw [hhs.out] at HRE HH32 HHL HHS
  obtain ⟨ts, hts⟩ : ∃ ts, Hd (allTexts K xs q = ts) := ⟨_, hid rfl⟩
  simp only [hts.out] at HLF HHS HCH HTS HTO
  have HMQ := hid (many_q m q N hq1 hN.out)
  obtain ⟨bl, hbl⟩ : ∃ bl, N * 48 + m = bl := ⟨_, rfl⟩
  rw [hbl] at HBL
  have HDL : Hd ((descC (q : Int) (m : Nat) (q : Int) K RT SH).length = 99) := hid (descC_length HK.out HRL.out HSL.out)
  have HD1 := hid (descC_one (q : Int) (m : Nat) (q : Int) K RT SH)
  have HD01 : Hd ((descC (q : Int) (m : Nat) (q : Int) K RT SH)[1]? = some (.int .u32 (m : Int))) := hid rfl
  have HD02 : Hd ((descC (q : Int) (m : Nat) (q : Int) K RT SH)[2]? = some (.int .u32 (q : Int))) := hid rfl
  have HK3 := hid (descC_D3 (id := (q : Int)) (m := (m : Nat)) (q := (q : Int)) (k := K) (r := RT) (b := SH) HK.out)
  have HR35 := hid (descC_D35 (id := (q : Int)) (m := (m : Nat)) (q := (q : Int)) (k := K) (r := RT) (b := SH) HK.out)
  have HS67 := hid (descC_D67 (id := (q : Int)) (m := (m : Nat)) (q := (q : Int)) (k := K) (r := RT) (b := SH) HK.out HRL.out)
  obtain ⟨D, hD⟩ : ∃ D, D = descC (q : Int) (m : Nat) (q : Int) K RT SH := ⟨_, rfl⟩
  rw [← hD] at HDL HD1 HD01 HD02 HK3 HR35 HS67
  simp only [← hD] at HMK
  clear hD
  have HTOT := hid fun w => dtotal_calls D m q N w HDL.out HD01.out HD02.out (by omega) (by omega) hN.out (by omega)
  have HTE : Hd ((N : Int) * 48 + m = (bl : Int)) := hid (by omega)
  have HCK := hid fun w => dcheck_ok D m q w HD01.out HD02.out (by omega) (by omega)
  have HPL := hid fun i f t p w h1 h2 h3 h4 h5 => dplace_calls D m q N i f t p w HDL.out HD01.out HD02.out (by omega) (by omega) hN.out (by omega) h1 h2 h3 h4 h5
  have HP0 := hid fun w => dplace_none D m q N w HDL.out HD01.out HD02.out (by omega) (by omega) hN.out (by omega)
  have HZ1 := hid zeroD_length
  have HZO : Hd (∀ v ∈ zeroD, v.oneCell' = true) := hid (descC_one 0 0 0 (List.replicate 32 0) (List.replicate 32 0) (List.replicate 32 0))
  have HZD := hid zeroDesc
  have HLONG := hid fun A c w => makeP_long K 1 1 A 601 c w (by omega)
  generalize zeroD = D0 at *
  have HB65 := hid (builtDq 65)
  have HC65 := hid fun (w : World) (hE : Errs w P) => dcheck_bad (dzq 65) 0 65 hE rfl rfl (by omega)
  generalize dzq 65 = D65 at *
  have hN1 : (1 : Int) ≤ N := by omega
  have hmax : max (((m : Int) + q - 1) / (q : Int)) 1 = (N : Int) := by
    rcases HMQ.out with h | ⟨h, h'⟩ <;> omega
  go_wp2_with (first
      | (go_at_call 8; refine (file_calls n_ m _ (by omega)).mono ?_; rintro e w3 ⟨v3, rfl, ho, hB⟩; obtain ⟨A3, c3, h3, hc3, _, _⟩ := ho.slice; rw [fileTo_length] at h3 hc3; subst h3; replace hS := hS.pushOwn hB ho; rw [hxs.out] at hS; clear ho hB)
      | (go_at_call 9; refine (keyC_calls n_ _).mono ?_; rintro e w4 ⟨rfl, hB⟩; rw [hK.out]; replace hS : HS NoF w w4 [.os 5 (.slice A3 m c3) (ints .u8 xs)] := hS.below hB; clear hB)
      | (refine alloc_blk rfl 27 rfl _ rfl (ints .u8 (List.replicate 32 0)) zeroKeyD ?_; intro g9 w7 hga hba hBa hsa; replace hS : HS NoF w w7 [.blk g9 27 (ints .u8 (List.replicate 32 0)), .os 5 (.slice A3 m c3) (ints .u8 xs)] := hS.pushBlk hBa hba hga; clear hga hba hBa hsa)
      | (refine hs_storeW hS 0 rfl rfl 27 _ _ rfl rfl (ints .u8 K) rfl (ints_one' _ _) 32 infoKeyD (by simp [HK.out]) (by simp) _ rfl ?_; clear hS; intro w8 hS; replace hS : HS NoF w w8 [.blk g9 27 (ints .u8 K), .os 5 (.slice A3 m c3) (ints .u8 xs)] := hS)
      | (refine hs_loadW hS 0 rfl rfl 27 _ rfl rfl 32 infoKeyD (by simp [HK.out]) _ arrKeyD rfl _ rfl ?_)
      | (go_at_call 10; refine (HMK.out A3 c3 _ (hS.os 1 rfl).len.2.2.2 hc3 ((hS.os 1 rfl).rd rfl)).mono ?_; rintro e w5 ⟨v5, rfl, hox, hown, hB⟩; obtain ⟨A5, c5, h5, hc5, _⟩ := hox.parts; rw [ints_length, HBL.out] at h5 hc5; subst h5; replace hS : HS NoF w w5 [.os 5 (.slice A5 bl c5) (ints .u8 bs), .blk g9 27 (ints .u8 K), .os 5 (.slice A3 m c3) (ints .u8 xs)] := hS.push hB _ hox (fun k hk => (by have := hown k hk; exact Nat.le_trans (by omega) this)); clear hox hown hB)
      | (refine alloc_blk rfl 32 rfl _ rfl D0 HZD.out ?_; intro g10 w11 hga hba hBa hsa; replace hS : HS NoF w w11 [.blk g10 32 D0, .os 5 (.slice A5 bl c5) (ints .u8 bs), .blk g9 27 (ints .u8 K), .os 5 (.slice A3 m c3) (ints .u8 xs)] := hS.pushBlk hBa hba hga; clear hga hba hBa hsa)
      | (refine hs_storeW hS 0 rfl rfl 32 _ _ rfl rfl D rfl HD1.out 99 sizeDesc HDL.out HZ1.out _ rfl ?_; clear hS; intro w6 hS; replace hS : HS NoF w w6 [.blk g10 32 D, .os 5 (.slice A5 bl c5) (ints .u8 bs), .blk g9 27 (ints .u8 K), .os 5 (.slice A3 m c3) (ints .u8 xs)] := hS)
      | fail)
  try go_wp2_with fail
  refine wp_region_S (F := NoF) (w0 := w) (L0 := [.blk g10 32 D, .os 5 (.slice A5 bl c5) (ints .u8 bs), .blk g9 27 (ints .u8 K), .os 5 (.slice A3 m c3) (ints .u8 xs)]) [1, 7, 14] []
    (fun iK u E => match iK with
      | 1 => u = .nilIface ∧ E = []
      | 7 => u = .int .i64 (bl : Int) ∧ E = []
      | 14 => u = .agg (ints .u8 SH).toArray ∧ E = []
      | _ => False)
    ([]) (by kernel_rfl) (by kernel_rfl) hS ?_
  show wpS _ _ _ _ _ _ _ _ _ _ [0, 1, 2, 3, 4, 5, 6, 7, 8, 9, 10, 11, 12, 13, 14, 15, 16, 17, 18, 19, 20, 21, 22, 23, 24, 25, 26, 27, 28, 29, 30, 31, 32, 33, 34, 35, 36] _
  apply wpS_read (i := 0) rfl rfl ⟨_, hS⟩ rfl -- Op.load 32 t10
  · intro w' hT'
    simp only [List.getElem_toArray, List.getElem_cons_zero, List.getElem_cons_succ]
    have cs1 : w'.cell? ⟨g10, 1, none⟩ = _ := (hT'.cell 0 rfl 1).trans HD01.out
    have cs2 : w'.cell? ⟨g10, 2, none⟩ = _ := (hT'.cell 0 rfl 2).trans HD02.out
    go_wp2_with (first
      | (refine hs_loadW hT' 0 rfl rfl 32 _ rfl rfl 99 sizeDesc HDL.out _ undDesc.choose_spec rfl _ rfl ?_)
      | (refine hs_loadN hT' 0 rfl rfl 30 _ rfl 67 rfl (ints .u8 SH) HS67.out 32 infoHashD (by simp [HSL.out]) _ arrHashD rfl _ rfl ?_)
      | (refine hs_loadN hT' 0 rfl rfl 30 _ rfl 35 rfl (ints .u8 RT) HR35.out 32 infoHashD (by simp [HRL.out]) _ arrHashD rfl _ rfl ?_)
      | (refine hs_loadN hT' 0 rfl rfl 27 _ rfl 3 rfl (ints .u8 K) HK3.out 32 infoKeyD (by simp [HK.out]) _ arrKeyD rfl _ rfl ?_)
      | (refine hs_loadW hT' 2 rfl rfl 27 _ rfl rfl 32 infoKeyD (by simp [HK.out]) _ arrKeyD rfl _ rfl ?_)
      | (refine bin_toD rfl _ _ _ _ _ rfl (ints .u8 SH).toArray (ints .u8 SH).toArray rfl rfl guardHash (.bool false) (hash_neq _ HSL.out) _ rfl ?_)
      | (refine bin_toD rfl _ _ _ _ _ rfl (ints .u8 K).toArray (ints .u8 K).toArray rfl rfl guardKey (.bool false) (key_neq _ HK.out) _ rfl ?_)
      | (refine bin_toD rfl _ _ _ _ _ rfl (ints .u8 RT).toArray (ints .u8 RT).toArray rfl rfl guardHash (.bool true) (hash_eql _ HRL.out) _ rfl ?_)
      | fail)
    first | exact ⟨rfl, rfl, rfl⟩ | rfl
  refine wpS_soft (i := 1) rfl rfl rfl (Nat.le_of_ble_eq_true rfl) ?_ ?_ -- Op.call { value (Operand.func 12), args := #[t54], argTypes := #[32]
  · intro w' hT
    simp only [List.getElem_toArray, List.getElem_cons_zero, List.getElem_cons_succ]
    go_wp2_with (first
      | (go_at_call 11; refine (HCK.out _).mono ?_; rintro e w6 ⟨rfl, hB6⟩)
      | fail)
    exact SoftP.mk' (.nilIface) ([]) rfl (⟨rfl, rfl⟩) (hT.below hB6) (hB6) (fun _ h => by cases h)
  intro u1 E1 hK1
  obtain ⟨rfl, rfl⟩ := hK1
  simp only [Act.put, List.setIfInBounds_toArray, List.set_cons_zero, List.set_cons_succ]
  apply wpS_read (i := 2) rfl rfl ⟨_, hS⟩ rfl -- Op.binOp BinOp.neq 36 t55 (const Value.nilIface) 36
  · intro w' hT'
    simp only [List.getElem_toArray, List.getElem_cons_zero, List.getElem_cons_succ]
    go_wp2_with (first
      | (refine hs_loadW hT' 0 rfl rfl 32 _ rfl rfl 99 sizeDesc HDL.out _ undDesc.choose_spec rfl _ rfl ?_)
      | (refine hs_loadN hT' 0 rfl rfl 30 _ rfl 67 rfl (ints .u8 SH) HS67.out 32 infoHashD (by simp [HSL.out]) _ arrHashD rfl _ rfl ?_)
      | (refine hs_loadN hT' 0 rfl rfl 30 _ rfl 35 rfl (ints .u8 RT) HR35.out 32 infoHashD (by simp [HRL.out]) _ arrHashD rfl _ rfl ?_)
      | (refine hs_loadN hT' 0 rfl rfl 27 _ rfl 3 rfl (ints .u8 K) HK3.out 32 infoKeyD (by simp [HK.out]) _ arrKeyD rfl _ rfl ?_)
      | (refine hs_loadW hT' 2 rfl rfl 27 _ rfl rfl 32 infoKeyD (by simp [HK.out]) _ arrKeyD rfl _ rfl ?_)
      | (refine bin_toD rfl _ _ _ _ _ rfl (ints .u8 SH).toArray (ints .u8 SH).toArray rfl rfl guardHash (.bool false) (hash_neq _ HSL.out) _ rfl ?_)
      | (refine bin_toD rfl _ _ _ _ _ rfl (ints .u8 K).toArray (ints .u8 K).toArray rfl rfl guardKey (.bool false) (key_neq _ HK.out) _ rfl ?_)
      | (refine bin_toD rfl _ _ _ _ _ rfl (ints .u8 RT).toArray (ints .u8 RT).toArray rfl rfl guardHash (.bool true) (hash_eql _ HRL.out) _ rfl ?_)
      | fail)
    first | exact ⟨rfl, rfl, rfl⟩ | rfl
  apply wpS_read (i := 3) rfl rfl ⟨_, hS⟩ rfl -- Op.move t56
  · intro w' hT'
    simp only [List.getElem_toArray, List.getElem_cons_zero, List.getElem_cons_succ]
    go_wp2_with fail
    first | exact ⟨rfl, rfl, rfl⟩ | rfl
  apply wpS_read (i := 4) rfl rfl ⟨_, hS⟩ rfl -- Op.move t11
  · intro w' hT'
    simp only [List.getElem_toArray, List.getElem_cons_zero, List.getElem_cons_succ]
    go_wp2_with fail
    first | exact ⟨rfl, rfl, rfl⟩ | rfl
  apply wpS_read (i := 5) rfl rfl ⟨_, hS⟩ rfl -- Op.call { builtin len, args := #[t58], argTypes := #[24] }
  · intro w' hT'
    simp only [List.getElem_toArray, List.getElem_cons_zero, List.getElem_cons_succ]
    go_wp2_with fail
    first | exact ⟨rfl, rfl, rfl⟩ | rfl
  apply wpS_read (i := 6) rfl rfl ⟨_, hS⟩ rfl -- Op.load 32 t10
  · intro w' hT'
    simp only [List.getElem_toArray, List.getElem_cons_zero, List.getElem_cons_succ]
    have cs1 : w'.cell? ⟨g10, 1, none⟩ = _ := (hT'.cell 0 rfl 1).trans HD01.out
    have cs2 : w'.cell? ⟨g10, 2, none⟩ = _ := (hT'.cell 0 rfl 2).trans HD02.out
    go_wp2_with (first
      | (refine hs_loadW hT' 0 rfl rfl 32 _ rfl rfl 99 sizeDesc HDL.out _ undDesc.choose_spec rfl _ rfl ?_)
      | (refine hs_loadN hT' 0 rfl rfl 30 _ rfl 67 rfl (ints .u8 SH) HS67.out 32 infoHashD (by simp [HSL.out]) _ arrHashD rfl _ rfl ?_)
      | (refine hs_loadN hT' 0 rfl rfl 30 _ rfl 35 rfl (ints .u8 RT) HR35.out 32 infoHashD (by simp [HRL.out]) _ arrHashD rfl _ rfl ?_)
      | (refine hs_loadN hT' 0 rfl rfl 27 _ rfl 3 rfl (ints .u8 K) HK3.out 32 infoKeyD (by simp [HK.out]) _ arrKeyD rfl _ rfl ?_)
      | (refine hs_loadW hT' 2 rfl rfl 27 _ rfl rfl 32 infoKeyD (by simp [HK.out]) _ arrKeyD rfl _ rfl ?_)
      | (refine bin_toD rfl _ _ _ _ _ rfl (ints .u8 SH).toArray (ints .u8 SH).toArray rfl rfl guardHash (.bool false) (hash_neq _ HSL.out) _ rfl ?_)
      | (refine bin_toD rfl _ _ _ _ _ rfl (ints .u8 K).toArray (ints .u8 K).toArray rfl rfl guardKey (.bool false) (key_neq _ HK.out) _ rfl ?_)
      | (refine bin_toD rfl _ _ _ _ _ rfl (ints .u8 RT).toArray (ints .u8 RT).toArray rfl rfl guardHash (.bool true) (hash_eql _ HRL.out) _ rfl ?_)
      | fail)
    first | exact ⟨rfl, rfl, rfl⟩ | rfl
  refine wpS_soft (i := 7) rfl rfl rfl (Nat.le_of_ble_eq_true rfl) ?_ ?_ -- Op.call { value (Operand.func 13), args := #[t60], argTypes := #[32]
  · intro w' hT
    simp only [List.getElem_toArray, List.getElem_cons_zero, List.getElem_cons_succ]
    go_wp2_with (first
      | (go_at_call 12; refine (HTOT.out _).mono ?_; rintro e w6 ⟨rfl, hB6⟩; rw [HTE.out])
      | fail)
    exact SoftP.mk' (.int .i64 (bl : Int)) ([]) rfl (⟨rfl, rfl⟩) (hT.below hB6) (hB6) (fun _ h => by cases h)
  intro u7 E7 hK7
  obtain ⟨rfl, rfl⟩ := hK7
  simp only [Act.put, List.setIfInBounds_toArray, List.set_cons_zero, List.set_cons_succ]
  apply wpS_read (i := 8) rfl rfl ⟨_, hS⟩ rfl -- Op.binOp BinOp.neq 3 t59 t61 3
  · intro w' hT'
    simp only [List.getElem_toArray, List.getElem_cons_zero, List.getElem_cons_succ]
    go_wp2_with (first
      | (refine hs_loadW hT' 0 rfl rfl 32 _ rfl rfl 99 sizeDesc HDL.out _ undDesc.choose_spec rfl _ rfl ?_)
      | (refine hs_loadN hT' 0 rfl rfl 30 _ rfl 67 rfl (ints .u8 SH) HS67.out 32 infoHashD (by simp [HSL.out]) _ arrHashD rfl _ rfl ?_)
      | (refine hs_loadN hT' 0 rfl rfl 30 _ rfl 35 rfl (ints .u8 RT) HR35.out 32 infoHashD (by simp [HRL.out]) _ arrHashD rfl _ rfl ?_)
      | (refine hs_loadN hT' 0 rfl rfl 27 _ rfl 3 rfl (ints .u8 K) HK3.out 32 infoKeyD (by simp [HK.out]) _ arrKeyD rfl _ rfl ?_)
      | (refine hs_loadW hT' 2 rfl rfl 27 _ rfl rfl 32 infoKeyD (by simp [HK.out]) _ arrKeyD rfl _ rfl ?_)
      | (refine bin_toD rfl _ _ _ _ _ rfl (ints .u8 SH).toArray (ints .u8 SH).toArray rfl rfl guardHash (.bool false) (hash_neq _ HSL.out) _ rfl ?_)
      | (refine bin_toD rfl _ _ _ _ _ rfl (ints .u8 K).toArray (ints .u8 K).toArray rfl rfl guardKey (.bool false) (key_neq _ HK.out) _ rfl ?_)
      | (refine bin_toD rfl _ _ _ _ _ rfl (ints .u8 RT).toArray (ints .u8 RT).toArray rfl rfl guardHash (.bool true) (hash_eql _ HRL.out) _ rfl ?_)
      | fail)
    first | exact ⟨rfl, rfl, rfl⟩ | rfl
  apply wpS_read (i := 9) rfl rfl ⟨_, hS⟩ rfl -- Op.pick t57 (const (Value.bool true)) t62
  · intro w' hT'
    simp only [List.getElem_toArray, List.getElem_cons_zero, List.getElem_cons_succ]
    go_wp2_with fail
    first | exact ⟨rfl, rfl, rfl⟩ | rfl
  apply wpS_read (i := 10) rfl rfl ⟨_, hS⟩ rfl -- Op.move t63
  · intro w' hT'
    simp only [List.getElem_toArray, List.getElem_cons_zero, List.getElem_cons_succ]
    go_wp2_with fail
    first | exact ⟨rfl, rfl, rfl⟩ | rfl
  apply wpS_read (i := 11) rfl rfl ⟨_, hS⟩ rfl -- Op.fieldAddr 32 t10 5
  · intro w' hT'
    simp only [List.getElem_toArray, List.getElem_cons_zero, List.getElem_cons_succ]
    go_wp2_with fail
    first | exact ⟨rfl, rfl, rfl⟩ | rfl
  apply wpS_read (i := 12) rfl rfl ⟨_, hS⟩ rfl -- Op.load 30 t65
  · intro w' hT'
    simp only [List.getElem_toArray, List.getElem_cons_zero, List.getElem_cons_succ]
    have cs1 : w'.cell? ⟨g10, 1, none⟩ = _ := (hT'.cell 0 rfl 1).trans HD01.out
    have cs2 : w'.cell? ⟨g10, 2, none⟩ = _ := (hT'.cell 0 rfl 2).trans HD02.out
    go_wp2_with (first
      | (refine hs_loadW hT' 0 rfl rfl 32 _ rfl rfl 99 sizeDesc HDL.out _ undDesc.choose_spec rfl _ rfl ?_)
      | (refine hs_loadN hT' 0 rfl rfl 30 _ rfl 67 rfl (ints .u8 SH) HS67.out 32 infoHashD (by simp [HSL.out]) _ arrHashD rfl _ rfl ?_)
      | (refine hs_loadN hT' 0 rfl rfl 30 _ rfl 35 rfl (ints .u8 RT) HR35.out 32 infoHashD (by simp [HRL.out]) _ arrHashD rfl _ rfl ?_)
      | (refine hs_loadN hT' 0 rfl rfl 27 _ rfl 3 rfl (ints .u8 K) HK3.out 32 infoKeyD (by simp [HK.out]) _ arrKeyD rfl _ rfl ?_)
      | (refine hs_loadW hT' 2 rfl rfl 27 _ rfl rfl 32 infoKeyD (by simp [HK.out]) _ arrKeyD rfl _ rfl ?_)
      | (refine bin_toD rfl _ _ _ _ _ rfl (ints .u8 SH).toArray (ints .u8 SH).toArray rfl rfl guardHash (.bool false) (hash_neq _ HSL.out) _ rfl ?_)
      | (refine bin_toD rfl _ _ _ _ _ rfl (ints .u8 K).toArray (ints .u8 K).toArray rfl rfl guardKey (.bool false) (key_neq _ HK.out) _ rfl ?_)
      | (refine bin_toD rfl _ _ _ _ _ rfl (ints .u8 RT).toArray (ints .u8 RT).toArray rfl rfl guardHash (.bool true) (hash_eql _ HRL.out) _ rfl ?_)
      | fail)
    first | exact ⟨rfl, rfl, rfl⟩ | rfl
  apply wpS_read (i := 13) rfl rfl ⟨_, hS⟩ rfl -- Op.move t11
  · intro w' hT'
    simp only [List.getElem_toArray, List.getElem_cons_zero, List.getElem_cons_succ]
    go_wp2_with fail
    first | exact ⟨rfl, rfl, rfl⟩ | rfl
  refine wpS_soft (i := 14) rfl rfl rfl (Nat.le_of_ble_eq_true rfl) ?_ ?_ -- Op.call { value (Operand.func 14), args := #[t67], argTypes := #[24]
  · intro w' hT
    simp only [List.getElem_toArray, List.getElem_cons_zero, List.getElem_cons_succ]
    go_wp2_with (first
      | (go_at_call 13; refine (sum1_calls bs A5 bl c5 _ HBL.out ((hT.os 1 rfl).rd rfl) HBB.out (by omega)).mono ?_; rintro e w6 ⟨rfl, hB6⟩; rw [hSH.out])
      | fail)
    exact SoftP.mk' (.agg (ints .u8 SH).toArray) ([]) rfl (⟨rfl, rfl⟩) (hT.below hB6) (hB6) (fun _ h => by cases h)
  intro u14 E14 hK14
  obtain ⟨rfl, rfl⟩ := hK14
  simp only [Act.put, List.setIfInBounds_toArray, List.set_cons_zero, List.set_cons_succ]
  apply wpS_read (i := 15) rfl rfl ⟨_, hS⟩ rfl -- Op.binOp BinOp.neq 30 t66 t68 30
  · intro w' hT'
    simp only [List.getElem_toArray, List.getElem_cons_zero, List.getElem_cons_succ]
    go_wp2_with (first
      | (refine hs_loadW hT' 0 rfl rfl 32 _ rfl rfl 99 sizeDesc HDL.out _ undDesc.choose_spec rfl _ rfl ?_)
      | (refine hs_loadN hT' 0 rfl rfl 30 _ rfl 67 rfl (ints .u8 SH) HS67.out 32 infoHashD (by simp [HSL.out]) _ arrHashD rfl _ rfl ?_)
      | (refine hs_loadN hT' 0 rfl rfl 30 _ rfl 35 rfl (ints .u8 RT) HR35.out 32 infoHashD (by simp [HRL.out]) _ arrHashD rfl _ rfl ?_)
      | (refine hs_loadN hT' 0 rfl rfl 27 _ rfl 3 rfl (ints .u8 K) HK3.out 32 infoKeyD (by simp [HK.out]) _ arrKeyD rfl _ rfl ?_)
      | (refine hs_loadW hT' 2 rfl rfl 27 _ rfl rfl 32 infoKeyD (by simp [HK.out]) _ arrKeyD rfl _ rfl ?_)
      | (refine bin_toD rfl _ _ _ _ _ rfl (ints .u8 SH).toArray (ints .u8 SH).toArray rfl rfl guardHash (.bool false) (hash_neq _ HSL.out) _ rfl ?_)
      | (refine bin_toD rfl _ _ _ _ _ rfl (ints .u8 K).toArray (ints .u8 K).toArray rfl rfl guardKey (.bool false) (key_neq _ HK.out) _ rfl ?_)
      | (refine bin_toD rfl _ _ _ _ _ rfl (ints .u8 RT).toArray (ints .u8 RT).toArray rfl rfl guardHash (.bool true) (hash_eql _ HRL.out) _ rfl ?_)
      | fail)
    first | exact ⟨rfl, rfl, rfl⟩ | rfl
  apply wpS_read (i := 16) rfl rfl ⟨_, hS⟩ rfl -- Op.pick t64 (const (Value.bool true)) t69
  · intro w' hT'
    simp only [List.getElem_toArray, List.getElem_cons_zero, List.getElem_cons_succ]
    go_wp2_with fail
    first | exact ⟨rfl, rfl, rfl⟩ | rfl
  apply wpS_read (i := 17) rfl rfl ⟨_, hS⟩ rfl -- Op.move t70
  · intro w' hT'
    simp only [List.getElem_toArray, List.getElem_cons_zero, List.getElem_cons_succ]
    go_wp2_with fail
    first | exact ⟨rfl, rfl, rfl⟩ | rfl
  apply wpS_read (i := 18) rfl rfl ⟨_, hS⟩ rfl -- Op.fieldAddr 32 t10 1
  · intro w' hT'
    simp only [List.getElem_toArray, List.getElem_cons_zero, List.getElem_cons_succ]
    go_wp2_with fail
    first | exact ⟨rfl, rfl, rfl⟩ | rfl
  apply wpS_read (i := 19) rfl rfl ⟨_, hS⟩ rfl -- Op.load 29 t72
  · intro w' hT'
    simp only [List.getElem_toArray, List.getElem_cons_zero, List.getElem_cons_succ]
    have cs1 : w'.cell? ⟨g10, 1, none⟩ = _ := (hT'.cell 0 rfl 1).trans HD01.out
    have cs2 : w'.cell? ⟨g10, 2, none⟩ = _ := (hT'.cell 0 rfl 2).trans HD02.out
    go_wp2_with (first
      | (refine hs_loadW hT' 0 rfl rfl 32 _ rfl rfl 99 sizeDesc HDL.out _ undDesc.choose_spec rfl _ rfl ?_)
      | (refine hs_loadN hT' 0 rfl rfl 30 _ rfl 67 rfl (ints .u8 SH) HS67.out 32 infoHashD (by simp [HSL.out]) _ arrHashD rfl _ rfl ?_)
      | (refine hs_loadN hT' 0 rfl rfl 30 _ rfl 35 rfl (ints .u8 RT) HR35.out 32 infoHashD (by simp [HRL.out]) _ arrHashD rfl _ rfl ?_)
      | (refine hs_loadN hT' 0 rfl rfl 27 _ rfl 3 rfl (ints .u8 K) HK3.out 32 infoKeyD (by simp [HK.out]) _ arrKeyD rfl _ rfl ?_)
      | (refine hs_loadW hT' 2 rfl rfl 27 _ rfl rfl 32 infoKeyD (by simp [HK.out]) _ arrKeyD rfl _ rfl ?_)
      | (refine bin_toD rfl _ _ _ _ _ rfl (ints .u8 SH).toArray (ints .u8 SH).toArray rfl rfl guardHash (.bool false) (hash_neq _ HSL.out) _ rfl ?_)
      | (refine bin_toD rfl _ _ _ _ _ rfl (ints .u8 K).toArray (ints .u8 K).toArray rfl rfl guardKey (.bool false) (key_neq _ HK.out) _ rfl ?_)
      | (refine bin_toD rfl _ _ _ _ _ rfl (ints .u8 RT).toArray (ints .u8 RT).toArray rfl rfl guardHash (.bool true) (hash_eql _ HRL.out) _ rfl ?_)
      | fail)
    first | exact ⟨rfl, rfl, rfl⟩ | rfl
  apply wpS_read (i := 20) rfl rfl ⟨_, hS⟩ rfl -- Op.convert 29 3 t73
  · intro w' hT'
    simp only [List.getElem_toArray, List.getElem_cons_zero, List.getElem_cons_succ]
    go_wp2_with (first
      | (refine hs_loadW hT' 0 rfl rfl 32 _ rfl rfl 99 sizeDesc HDL.out _ undDesc.choose_spec rfl _ rfl ?_)
      | (refine hs_loadN hT' 0 rfl rfl 30 _ rfl 67 rfl (ints .u8 SH) HS67.out 32 infoHashD (by simp [HSL.out]) _ arrHashD rfl _ rfl ?_)
      | (refine hs_loadN hT' 0 rfl rfl 30 _ rfl 35 rfl (ints .u8 RT) HR35.out 32 infoHashD (by simp [HRL.out]) _ arrHashD rfl _ rfl ?_)
      | (refine hs_loadN hT' 0 rfl rfl 27 _ rfl 3 rfl (ints .u8 K) HK3.out 32 infoKeyD (by simp [HK.out]) _ arrKeyD rfl _ rfl ?_)
      | (refine hs_loadW hT' 2 rfl rfl 27 _ rfl rfl 32 infoKeyD (by simp [HK.out]) _ arrKeyD rfl _ rfl ?_)
      | (refine bin_toD rfl _ _ _ _ _ rfl (ints .u8 SH).toArray (ints .u8 SH).toArray rfl rfl guardHash (.bool false) (hash_neq _ HSL.out) _ rfl ?_)
      | (refine bin_toD rfl _ _ _ _ _ rfl (ints .u8 K).toArray (ints .u8 K).toArray rfl rfl guardKey (.bool false) (key_neq _ HK.out) _ rfl ?_)
      | (refine bin_toD rfl _ _ _ _ _ rfl (ints .u8 RT).toArray (ints .u8 RT).toArray rfl rfl guardHash (.bool true) (hash_eql _ HRL.out) _ rfl ?_)
      | fail)
    first | exact ⟨rfl, rfl, rfl⟩ | rfl
  apply wpS_read (i := 21) rfl rfl ⟨_, hS⟩ rfl -- Op.move t1
  · intro w' hT'
    simp only [List.getElem_toArray, List.getElem_cons_zero, List.getElem_cons_succ]
    go_wp2_with fail
    first | exact ⟨rfl, rfl, rfl⟩ | rfl
  apply wpS_read (i := 22) rfl rfl ⟨_, hS⟩ rfl -- Op.binOp BinOp.neq 3 t74 t75 3
  · intro w' hT'
    simp only [List.getElem_toArray, List.getElem_cons_zero, List.getElem_cons_succ]
    go_wp2_with (first
      | (refine hs_loadW hT' 0 rfl rfl 32 _ rfl rfl 99 sizeDesc HDL.out _ undDesc.choose_spec rfl _ rfl ?_)
      | (refine hs_loadN hT' 0 rfl rfl 30 _ rfl 67 rfl (ints .u8 SH) HS67.out 32 infoHashD (by simp [HSL.out]) _ arrHashD rfl _ rfl ?_)
      | (refine hs_loadN hT' 0 rfl rfl 30 _ rfl 35 rfl (ints .u8 RT) HR35.out 32 infoHashD (by simp [HRL.out]) _ arrHashD rfl _ rfl ?_)
      | (refine hs_loadN hT' 0 rfl rfl 27 _ rfl 3 rfl (ints .u8 K) HK3.out 32 infoKeyD (by simp [HK.out]) _ arrKeyD rfl _ rfl ?_)
      | (refine hs_loadW hT' 2 rfl rfl 27 _ rfl rfl 32 infoKeyD (by simp [HK.out]) _ arrKeyD rfl _ rfl ?_)
      | (refine bin_toD rfl _ _ _ _ _ rfl (ints .u8 SH).toArray (ints .u8 SH).toArray rfl rfl guardHash (.bool false) (hash_neq _ HSL.out) _ rfl ?_)
      | (refine bin_toD rfl _ _ _ _ _ rfl (ints .u8 K).toArray (ints .u8 K).toArray rfl rfl guardKey (.bool false) (key_neq _ HK.out) _ rfl ?_)
      | (refine bin_toD rfl _ _ _ _ _ rfl (ints .u8 RT).toArray (ints .u8 RT).toArray rfl rfl guardHash (.bool true) (hash_eql _ HRL.out) _ rfl ?_)
      | fail)
    first | exact ⟨rfl, rfl, rfl⟩ | rfl
  apply wpS_read (i := 23) rfl rfl ⟨_, hS⟩ rfl -- Op.pick t71 (const (Value.bool true)) t76
  · intro w' hT'
    simp only [List.getElem_toArray, List.getElem_cons_zero, List.getElem_cons_succ]
    go_wp2_with fail
    first | exact ⟨rfl, rfl, rfl⟩ | rfl
  apply wpS_read (i := 24) rfl rfl ⟨_, hS⟩ rfl -- Op.move t77
  · intro w' hT'
    simp only [List.getElem_toArray, List.getElem_cons_zero, List.getElem_cons_succ]
    go_wp2_with fail
    first | exact ⟨rfl, rfl, rfl⟩ | rfl
  apply wpS_read (i := 25) rfl rfl ⟨_, hS⟩ rfl -- Op.fieldAddr 32 t10 2
  · intro w' hT'
    simp only [List.getElem_toArray, List.getElem_cons_zero, List.getElem_cons_succ]
    go_wp2_with fail
    first | exact ⟨rfl, rfl, rfl⟩ | rfl
  apply wpS_read (i := 26) rfl rfl ⟨_, hS⟩ rfl -- Op.load 29 t79
  · intro w' hT'
    simp only [List.getElem_toArray, List.getElem_cons_zero, List.getElem_cons_succ]
    have cs1 : w'.cell? ⟨g10, 1, none⟩ = _ := (hT'.cell 0 rfl 1).trans HD01.out
    have cs2 : w'.cell? ⟨g10, 2, none⟩ = _ := (hT'.cell 0 rfl 2).trans HD02.out
    go_wp2_with (first
      | (refine hs_loadW hT' 0 rfl rfl 32 _ rfl rfl 99 sizeDesc HDL.out _ undDesc.choose_spec rfl _ rfl ?_)
      | (refine hs_loadN hT' 0 rfl rfl 30 _ rfl 67 rfl (ints .u8 SH) HS67.out 32 infoHashD (by simp [HSL.out]) _ arrHashD rfl _ rfl ?_)
      | (refine hs_loadN hT' 0 rfl rfl 30 _ rfl 35 rfl (ints .u8 RT) HR35.out 32 infoHashD (by simp [HRL.out]) _ arrHashD rfl _ rfl ?_)
      | (refine hs_loadN hT' 0 rfl rfl 27 _ rfl 3 rfl (ints .u8 K) HK3.out 32 infoKeyD (by simp [HK.out]) _ arrKeyD rfl _ rfl ?_)
      | (refine hs_loadW hT' 2 rfl rfl 27 _ rfl rfl 32 infoKeyD (by simp [HK.out]) _ arrKeyD rfl _ rfl ?_)
      | (refine bin_toD rfl _ _ _ _ _ rfl (ints .u8 SH).toArray (ints .u8 SH).toArray rfl rfl guardHash (.bool false) (hash_neq _ HSL.out) _ rfl ?_)
      | (refine bin_toD rfl _ _ _ _ _ rfl (ints .u8 K).toArray (ints .u8 K).toArray rfl rfl guardKey (.bool false) (key_neq _ HK.out) _ rfl ?_)
      | (refine bin_toD rfl _ _ _ _ _ rfl (ints .u8 RT).toArray (ints .u8 RT).toArray rfl rfl guardHash (.bool true) (hash_eql _ HRL.out) _ rfl ?_)
      | fail)
    first | exact ⟨rfl, rfl, rfl⟩ | rfl
  apply wpS_read (i := 27) rfl rfl ⟨_, hS⟩ rfl -- Op.convert 29 3 t80
  · intro w' hT'
    simp only [List.getElem_toArray, List.getElem_cons_zero, List.getElem_cons_succ]
    go_wp2_with (first
      | (refine hs_loadW hT' 0 rfl rfl 32 _ rfl rfl 99 sizeDesc HDL.out _ undDesc.choose_spec rfl _ rfl ?_)
      | (refine hs_loadN hT' 0 rfl rfl 30 _ rfl 67 rfl (ints .u8 SH) HS67.out 32 infoHashD (by simp [HSL.out]) _ arrHashD rfl _ rfl ?_)
      | (refine hs_loadN hT' 0 rfl rfl 30 _ rfl 35 rfl (ints .u8 RT) HR35.out 32 infoHashD (by simp [HRL.out]) _ arrHashD rfl _ rfl ?_)
      | (refine hs_loadN hT' 0 rfl rfl 27 _ rfl 3 rfl (ints .u8 K) HK3.out 32 infoKeyD (by simp [HK.out]) _ arrKeyD rfl _ rfl ?_)
      | (refine hs_loadW hT' 2 rfl rfl 27 _ rfl rfl 32 infoKeyD (by simp [HK.out]) _ arrKeyD rfl _ rfl ?_)
      | (refine bin_toD rfl _ _ _ _ _ rfl (ints .u8 SH).toArray (ints .u8 SH).toArray rfl rfl guardHash (.bool false) (hash_neq _ HSL.out) _ rfl ?_)
      | (refine bin_toD rfl _ _ _ _ _ rfl (ints .u8 K).toArray (ints .u8 K).toArray rfl rfl guardKey (.bool false) (key_neq _ HK.out) _ rfl ?_)
      | (refine bin_toD rfl _ _ _ _ _ rfl (ints .u8 RT).toArray (ints .u8 RT).toArray rfl rfl guardHash (.bool true) (hash_eql _ HRL.out) _ rfl ?_)
      | fail)
    first | exact ⟨rfl, rfl, rfl⟩ | rfl
  apply wpS_read (i := 28) rfl rfl ⟨_, hS⟩ rfl -- Op.move t2
  · intro w' hT'
    simp only [List.getElem_toArray, List.getElem_cons_zero, List.getElem_cons_succ]
    go_wp2_with fail
    first | exact ⟨rfl, rfl, rfl⟩ | rfl
  apply wpS_read (i := 29) rfl rfl ⟨_, hS⟩ rfl -- Op.binOp BinOp.neq 3 t81 t82 3
  · intro w' hT'
    simp only [List.getElem_toArray, List.getElem_cons_zero, List.getElem_cons_succ]
    go_wp2_with (first
      | (refine hs_loadW hT' 0 rfl rfl 32 _ rfl rfl 99 sizeDesc HDL.out _ undDesc.choose_spec rfl _ rfl ?_)
      | (refine hs_loadN hT' 0 rfl rfl 30 _ rfl 67 rfl (ints .u8 SH) HS67.out 32 infoHashD (by simp [HSL.out]) _ arrHashD rfl _ rfl ?_)
      | (refine hs_loadN hT' 0 rfl rfl 30 _ rfl 35 rfl (ints .u8 RT) HR35.out 32 infoHashD (by simp [HRL.out]) _ arrHashD rfl _ rfl ?_)
      | (refine hs_loadN hT' 0 rfl rfl 27 _ rfl 3 rfl (ints .u8 K) HK3.out 32 infoKeyD (by simp [HK.out]) _ arrKeyD rfl _ rfl ?_)
      | (refine hs_loadW hT' 2 rfl rfl 27 _ rfl rfl 32 infoKeyD (by simp [HK.out]) _ arrKeyD rfl _ rfl ?_)
      | (refine bin_toD rfl _ _ _ _ _ rfl (ints .u8 SH).toArray (ints .u8 SH).toArray rfl rfl guardHash (.bool false) (hash_neq _ HSL.out) _ rfl ?_)
      | (refine bin_toD rfl _ _ _ _ _ rfl (ints .u8 K).toArray (ints .u8 K).toArray rfl rfl guardKey (.bool false) (key_neq _ HK.out) _ rfl ?_)
      | (refine bin_toD rfl _ _ _ _ _ rfl (ints .u8 RT).toArray (ints .u8 RT).toArray rfl rfl guardHash (.bool true) (hash_eql _ HRL.out) _ rfl ?_)
      | fail)
    first | exact ⟨rfl, rfl, rfl⟩ | rfl
  apply wpS_read (i := 30) rfl rfl ⟨_, hS⟩ rfl -- Op.pick t78 (const (Value.bool true)) t83
  · intro w' hT'
    simp only [List.getElem_toArray, List.getElem_cons_zero, List.getElem_cons_succ]
    go_wp2_with fail
    first | exact ⟨rfl, rfl, rfl⟩ | rfl
  apply wpS_read (i := 31) rfl rfl ⟨_, hS⟩ rfl -- Op.move t84
  · intro w' hT'
    simp only [List.getElem_toArray, List.getElem_cons_zero, List.getElem_cons_succ]
    go_wp2_with fail
    first | exact ⟨rfl, rfl, rfl⟩ | rfl
  apply wpS_read (i := 32) rfl rfl ⟨_, hS⟩ rfl -- Op.fieldAddr 32 t10 3
  · intro w' hT'
    simp only [List.getElem_toArray, List.getElem_cons_zero, List.getElem_cons_succ]
    go_wp2_with fail
    first | exact ⟨rfl, rfl, rfl⟩ | rfl
  apply wpS_read (i := 33) rfl rfl ⟨_, hS⟩ rfl -- Op.load 27 t86
  · intro w' hT'
    simp only [List.getElem_toArray, List.getElem_cons_zero, List.getElem_cons_succ]
    have cs1 : w'.cell? ⟨g10, 1, none⟩ = _ := (hT'.cell 0 rfl 1).trans HD01.out
    have cs2 : w'.cell? ⟨g10, 2, none⟩ = _ := (hT'.cell 0 rfl 2).trans HD02.out
    go_wp2_with (first
      | (refine hs_loadW hT' 0 rfl rfl 32 _ rfl rfl 99 sizeDesc HDL.out _ undDesc.choose_spec rfl _ rfl ?_)
      | (refine hs_loadN hT' 0 rfl rfl 30 _ rfl 67 rfl (ints .u8 SH) HS67.out 32 infoHashD (by simp [HSL.out]) _ arrHashD rfl _ rfl ?_)
      | (refine hs_loadN hT' 0 rfl rfl 30 _ rfl 35 rfl (ints .u8 RT) HR35.out 32 infoHashD (by simp [HRL.out]) _ arrHashD rfl _ rfl ?_)
      | (refine hs_loadN hT' 0 rfl rfl 27 _ rfl 3 rfl (ints .u8 K) HK3.out 32 infoKeyD (by simp [HK.out]) _ arrKeyD rfl _ rfl ?_)
      | (refine hs_loadW hT' 2 rfl rfl 27 _ rfl rfl 32 infoKeyD (by simp [HK.out]) _ arrKeyD rfl _ rfl ?_)
      | (refine bin_toD rfl _ _ _ _ _ rfl (ints .u8 SH).toArray (ints .u8 SH).toArray rfl rfl guardHash (.bool false) (hash_neq _ HSL.out) _ rfl ?_)
      | (refine bin_toD rfl _ _ _ _ _ rfl (ints .u8 K).toArray (ints .u8 K).toArray rfl rfl guardKey (.bool false) (key_neq _ HK.out) _ rfl ?_)
      | (refine bin_toD rfl _ _ _ _ _ rfl (ints .u8 RT).toArray (ints .u8 RT).toArray rfl rfl guardHash (.bool true) (hash_eql _ HRL.out) _ rfl ?_)
      | fail)
    first | exact ⟨rfl, rfl, rfl⟩ | rfl
  apply wpS_read (i := 34) rfl rfl ⟨_, hS⟩ rfl -- Op.load 27 t9
  · intro w' hT'
    simp only [List.getElem_toArray, List.getElem_cons_zero, List.getElem_cons_succ]
    have cs1 : w'.cell? ⟨g10, 1, none⟩ = _ := (hT'.cell 0 rfl 1).trans HD01.out
    have cs2 : w'.cell? ⟨g10, 2, none⟩ = _ := (hT'.cell 0 rfl 2).trans HD02.out
    go_wp2_with (first
      | (refine hs_loadW hT' 0 rfl rfl 32 _ rfl rfl 99 sizeDesc HDL.out _ undDesc.choose_spec rfl _ rfl ?_)
      | (refine hs_loadN hT' 0 rfl rfl 30 _ rfl 67 rfl (ints .u8 SH) HS67.out 32 infoHashD (by simp [HSL.out]) _ arrHashD rfl _ rfl ?_)
      | (refine hs_loadN hT' 0 rfl rfl 30 _ rfl 35 rfl (ints .u8 RT) HR35.out 32 infoHashD (by simp [HRL.out]) _ arrHashD rfl _ rfl ?_)
      | (refine hs_loadN hT' 0 rfl rfl 27 _ rfl 3 rfl (ints .u8 K) HK3.out 32 infoKeyD (by simp [HK.out]) _ arrKeyD rfl _ rfl ?_)
      | (refine hs_loadW hT' 2 rfl rfl 27 _ rfl rfl 32 infoKeyD (by simp [HK.out]) _ arrKeyD rfl _ rfl ?_)
      | (refine bin_toD rfl _ _ _ _ _ rfl (ints .u8 SH).toArray (ints .u8 SH).toArray rfl rfl guardHash (.bool false) (hash_neq _ HSL.out) _ rfl ?_)
      | (refine bin_toD rfl _ _ _ _ _ rfl (ints .u8 K).toArray (ints .u8 K).toArray rfl rfl guardKey (.bool false) (key_neq _ HK.out) _ rfl ?_)
      | (refine bin_toD rfl _ _ _ _ _ rfl (ints .u8 RT).toArray (ints .u8 RT).toArray rfl rfl guardHash (.bool true) (hash_eql _ HRL.out) _ rfl ?_)
      | fail)
    first | exact ⟨rfl, rfl, rfl⟩ | rfl
  apply wpS_read (i := 35) rfl rfl ⟨_, hS⟩ rfl -- Op.binOp BinOp.neq 27 t87 t88 27
  · intro w' hT'
    simp only [List.getElem_toArray, List.getElem_cons_zero, List.getElem_cons_succ]
    go_wp2_with (first
      | (refine hs_loadW hT' 0 rfl rfl 32 _ rfl rfl 99 sizeDesc HDL.out _ undDesc.choose_spec rfl _ rfl ?_)
      | (refine hs_loadN hT' 0 rfl rfl 30 _ rfl 67 rfl (ints .u8 SH) HS67.out 32 infoHashD (by simp [HSL.out]) _ arrHashD rfl _ rfl ?_)
      | (refine hs_loadN hT' 0 rfl rfl 30 _ rfl 35 rfl (ints .u8 RT) HR35.out 32 infoHashD (by simp [HRL.out]) _ arrHashD rfl _ rfl ?_)
      | (refine hs_loadN hT' 0 rfl rfl 27 _ rfl 3 rfl (ints .u8 K) HK3.out 32 infoKeyD (by simp [HK.out]) _ arrKeyD rfl _ rfl ?_)
      | (refine hs_loadW hT' 2 rfl rfl 27 _ rfl rfl 32 infoKeyD (by simp [HK.out]) _ arrKeyD rfl _ rfl ?_)
      | (refine bin_toD rfl _ _ _ _ _ rfl (ints .u8 SH).toArray (ints .u8 SH).toArray rfl rfl guardHash (.bool false) (hash_neq _ HSL.out) _ rfl ?_)
      | (refine bin_toD rfl _ _ _ _ _ rfl (ints .u8 K).toArray (ints .u8 K).toArray rfl rfl guardKey (.bool false) (key_neq _ HK.out) _ rfl ?_)
      | (refine bin_toD rfl _ _ _ _ _ rfl (ints .u8 RT).toArray (ints .u8 RT).toArray rfl rfl guardHash (.bool true) (hash_eql _ HRL.out) _ rfl ?_)
      | fail)
    first | exact ⟨rfl, rfl, rfl⟩ | rfl
  apply wpS_read (i := 36) rfl rfl ⟨_, hS⟩ rfl -- Op.pick t85 (const (Value.bool true)) t89
  · intro w' hT'
    simp only [List.getElem_toArray, List.getElem_cons_zero, List.getElem_cons_succ]
    go_wp2_with fail
    first | exact ⟨rfl, rfl, rfl⟩ | rfl
  refine wpS_end ?_
  intro wz hT
  try dsimp only
  clear hS
  have hS : HS NoF w wz [.blk g10 32 D, .os 5 (.slice A5 bl c5) (ints .u8 bs), .blk g9 27 (ints .u8 K), .os 5 (.slice A3 m c3) (ints .u8 xs)] := hT
  clear hT
  go_wp2_with fail
  replace hS : HS NoF w wz [.oa 30 32 (.slice none 0 0) (rowsOf (hs.take 0)), .blk g10 32 D, .os 5 (.slice A5 bl c5) (ints .u8 bs), .blk g9 27 (ints .u8 K), .os 5 (.slice A3 m c3) (ints .u8 xs)] := hS.push (Below.refl _ _) (.oa 30 32 (.slice none 0 0) []) (OwnA.nil _ _ _) (fun k hk => by simp [Ent.oa, Value.ownBlock] at hk)
  have he0 : Hd (32 * N + min (0 * q) m + 16 * 0 = 32 * N) := hid (by simp)
  obtain ⟨e0, HEE⟩ : ∃ e0 : Nat, Hd (e0 = 32 * N) := ⟨32 * N, hid rfl⟩
  go_loopg [13, 14, 15, 16, 17, 19, 20] N (fun kq v13 v14 v15 v16 v17 v19 v20 wr => ∃ (i e0 : Nat) (A1 : Option Addr) (n1 c1 : Nat), i ≤ N ∧ v13 = .int .i64 e0 ∧ v14 = .slice A1 n1 c1 ∧ v15 = .int .i64 i ∧ Hd (kq + i = N) ∧ Hd (e0 = 32 * N + min (i * q) m + 16 * i) ∧ HS NoF w wr [.oa 30 32 (.slice A1 n1 c1) (rowsOf (hs.take i)), .blk g10 32 D, .os 5 (.slice A5 bl c5) (ints .u8 bs), .blk g9 27 (ints .u8 K), .os 5 (.slice A3 m c3) (ints .u8 xs)])
  case atStart => exact ⟨0, e0, none, 0, 0, Nat.zero_le _, by rw [HEE.out]; first | rfl | simp, rfl, rfl, hid (by omega), hid (by rw [HEE.out, he0.out]), hS⟩
  case round =>
    clear hS HEE
    obtain ⟨i, e0, A1, n1, c1, hi, rfl, rfl, rfl, hqq, HEE, hS⟩ := hrel
    by_cases hlt : i < N
    · have hlt2 : (i : Int) < N := by omega
      obtain ⟨hfm, hpc, hpl, X, hX, hXE, hXB⟩ := HCH.out i hlt
      obtain ⟨f, hf⟩ : ∃ f, i * q = f := ⟨_, rfl⟩
      rw [hf] at hfm hpc hpl hXB
      obtain ⟨t, ht⟩ : ∃ t, min q (m - f) = t := ⟨_, rfl⟩
      rw [ht] at hpl
      obtain ⟨p, hp⟩ : ∃ p, N * 32 + i * 16 + f = p := ⟨_, rfl⟩
      rw [hp] at hXB
      have hep : e0 = p := by rw [HEE.out, hf, Nat.min_eq_left hfm]; omega
      subst hep
      have HPLi := hid fun w => HPL.out i f t e0 w hlt hf hfm ht hp
      obtain ⟨PC, hPC⟩ : ∃ PC, Hd (pieceOf xs q i = PC) := ⟨_, hid rfl⟩
      have RPC : Hd (bytesOk PC) := hid (by rw [← hPC.out]; exact bytesOk_pieceR RX.out)
      obtain ⟨L, hL⟩ : ∃ L, ((i : Int) == (N : Int) - 1) = L := ⟨_, rfl⟩
      rw [hPC.out] at hpc hpl hXE
      rw [hL] at hXE
      have hXO : openOf K (nonceOf i L) [] X = .inl PC := by rw [hXE]; exact open_seal _ _ _ _ RPC.out
      have hXL : X.length = t + 16 := by rw [hXE, ssealText, sealText_length, hpl]
      rw [hXL] at hXB
      have HXB := hid hXB
      have HXL := hid hXL
      have HXO := hid hXO
      have HX8 := hid (HTO.out X (List.mem_of_getElem? hX))
      have RX1 : Hd (bytesOk X) := hid (by rw [hXE]; exact sealText_ok _ _ _ _ RPC.out)
      have HLFi := hid (HLF.out i X hX)
      have HHSi := hid (HHS.out i X hX)
      have HPC := hid hpc
      have HPCL := hid hpl
      have hYL := hid (leafOf_length X)
      obtain ⟨Y, hY⟩ : ∃ Y, Hd (leafOf X = Y) := ⟨_, hid rfl⟩
      rw [hY.out] at hYL HLFi HHSi
      have HOP := hid fun A c w hc hr => sopen16_calls K i L X A (t + 16) c w HK.out RK.out (by omega) HXL.out.symm hc hr RX1.out (by rw [HXL.out]; omega)
      rw [HXO.out] at HOP
      have htq : t ≤ 64 ∧ f + t ≤ m := by omega
      have hpt : e0 + t + 16 ≤ bl := by omega
      obtain ⟨h, hh⟩ : ∃ h : Nat, (e0 : Int) + ((t : Int) + 16) = (h : Int) := ⟨e0 + (t + 16), by omega⟩
      have hh2 : h - e0 = t + 16 := by omega
      have hfi : (i : Int) * (q : Int) = (f : Int) := by rw [← hf]; simp
      obtain ⟨f2, hf2⟩ : ∃ f2 : Nat, ((i : Int) + 1) * (q : Int) = (f2 : Int) := ⟨(i + 1) * q, by simp⟩
      have hf2f : f2 = f + q := by have : ((i : Int) + 1) * q = i * q + q := by rw [Int.add_mul, Int.one_mul]
                                   omega
      have hfq : (f : Int) + (q : Int) = (f2 : Int) := by omega
      have hf2b : f2 ≤ 1000 ∧ f ≤ 1000 := by omega
      have HF2 : Hd ((i + 1) * q = f2) := hid (by rw [Nat.add_mul, Nat.one_mul, hf]; omega)
      clear hf2f
      obtain ⟨i32, h32⟩ : ∃ i32 : Nat, (32 : Int) * (i : Int) = (i32 : Int) := ⟨32 * i, by simp⟩
      obtain ⟨j32, h33⟩ : ∃ j32 : Nat, (i32 : Int) + 32 = (j32 : Int) := ⟨i32 + 32, by simp⟩
      have hi32 : i32 = 32 * i := by omega
      have H32E := hid hi32
      rw [← H32E.out] at HLFi
      have HFILE : Hd ((xs.drop f).take t = PC) := hid (by
        rw [HPC.out]
        rcases Nat.le_total q (m - f) with h | h
        · rw [show t = q by omega]
        · rw [show t = m - f by omega, List.take_of_length_le (by rw [List.length_drop, HX.out]; omega), List.take_of_length_le (by rw [List.length_drop, HX.out]; omega)])
      have HT := hid ht
      have HF := hid hf
      have hi32b : i32 + 32 ≤ bl := by omega
      have hb1 : e0 ≤ 20000 ∧ h ≤ 20000 := by omega
      clear hX hXE hXO hXL hXB hpc hpl ht hf hi32 hp
      have HRR : Hd (rowsOf (hs.take i) ++ [ints .u8 Y] = rowsOf (hs.take (i + 1))) := hid (by rw [take_snoc HHSi.out]; simp [rowsOf])
      have HRLn : Hd ((rowsOf (hs.take i)).length = i) := hid (by simp [rowsOf, HHL.out]; omega)
      have hb0 : ¬ e0 < 0 := by omega
      have hnm : ¬ ((t : Int) + 16 < 16) := by omega
      have hne : ¬ ((bl : Int) < (h : Int)) := by omega
      go_wp2_with (first
          | (refine hs_loadW hS 1 rfl rfl 32 _ rfl rfl 99 sizeDesc HDL.out _ undDesc.choose_spec rfl _ rfl ?_)
          | (go_at_call 14; refine (HPLi.out _).mono ?_; rintro e w6 ⟨rfl, hB⟩; replace hS := hS.below hB; clear hB)
          | (refine slice_anyD rfl _ _ _ 24 rfl 5 undBytes sizeU8D A5 bl c5 e0 h (t + 16) rfl rfl rfl (by omega) (by have := (hS.os 2 rfl).len.2.1; omega) hh2 _ rfl ?_)
          | (go_at_call 15; refine (leaf16_calls X (cutA A5 c5 e0) (t + 16) (c5 - e0) _ HXL.out (os_sub (hS.os 2 rfl) (by omega) HXB.out) HX8.out.2 (by omega)).mono ?_; rintro e w7 ⟨rfl, hB⟩; rw [hY.out]; replace hS := hS.below hB; clear hB)
          | (refine alloc_blk rfl 30 rfl _ rfl (ints .u8 (List.replicate 32 0)) zeroHashS ?_; intro g18 wa hga hba hBa hsa; replace hS := hS.pushBlk hBa hba hga; clear hga hba hBa hsa)
          | (refine hs_storeW hS 0 rfl rfl 30 _ _ rfl rfl (ints .u8 Y) rfl (ints_one' _ _) _ infoHashS (by simp [hYL.out]) (by simp) _ rfl ?_; clear hS; intro wb hS; replace hS : HS NoF w wb [.blk g18 30 (ints .u8 Y), .oa 30 32 (.slice A1 n1 c1) (rowsOf (hs.take i)), .blk g10 32 D, .os 5 (.slice A5 bl c5) (ints .u8 bs), .blk g9 27 (ints .u8 K), .os 5 (.slice A3 m c3) (ints .u8 xs)] := hS)
          | fail)
      try go_wp2_with fail
      refine wp_region_S (F := NoF) (w0 := w) (L0 := [.blk g18 30 (ints .u8 Y), .oa 30 32 (.slice A1 n1 c1) (rowsOf (hs.take i)), .blk g10 32 D, .os 5 (.slice A5 bl c5) (ints .u8 bs), .blk g9 27 (ints .u8 K), .os 5 (.slice A3 m c3) (ints .u8 xs)]) [8] []
        (fun iK u E => match iK with
          | 8 => u = .bool true ∧ E = []
          | _ => False)
        ([]) (by kernel_rfl) (by kernel_rfl) hS ?_
      show wpS _ _ _ _ _ _ _ _ _ _ [0, 1, 2, 3, 4, 5, 6, 7, 8, 9] _
      apply wpS_read (i := 0) rfl rfl ⟨_, hS⟩ rfl -- Op.slice 30 t18 none none none
      · intro w' hT'
        simp only [List.getElem_toArray, List.getElem_cons_zero, List.getElem_cons_succ]
        go_wp2_with (first
          | (refine slice_anyD rfl _ _ _ 24 rfl 5 undBytes sizeU8D A5 bl c5 i32 j32 32 rfl rfl rfl (by omega) (by have := (hT'.os 3 rfl).len.2.1; omega) (by omega) _ rfl ?_)
          | fail)
        first | exact ⟨rfl, rfl, rfl⟩ | rfl
      apply wpS_read (i := 1) rfl rfl ⟨_, hS⟩ rfl -- Op.move t11
      · intro w' hT'
        simp only [List.getElem_toArray, List.getElem_cons_zero, List.getElem_cons_succ]
        go_wp2_with fail
        first | exact ⟨rfl, rfl, rfl⟩ | rfl
      apply wpS_read (i := 2) rfl rfl ⟨_, hS⟩ rfl -- Op.move t15
      · intro w' hT'
        simp only [List.getElem_toArray, List.getElem_cons_zero, List.getElem_cons_succ]
        go_wp2_with fail
        first | exact ⟨rfl, rfl, rfl⟩ | rfl
      apply wpS_read (i := 3) rfl rfl ⟨_, hS⟩ rfl -- Op.binOp BinOp.mul 3 (const (32:i64)) t131 3
      · intro w' hT'
        simp only [List.getElem_toArray, List.getElem_cons_zero, List.getElem_cons_succ]
        go_wp2_with (first
          | (refine slice_anyD rfl _ _ _ 24 rfl 5 undBytes sizeU8D A5 bl c5 i32 j32 32 rfl rfl rfl (by omega) (by have := (hT'.os 3 rfl).len.2.1; omega) (by omega) _ rfl ?_)
          | fail)
        first | exact ⟨rfl, rfl, rfl⟩ | rfl
      apply wpS_read (i := 4) rfl rfl ⟨_, hS⟩ rfl -- Op.move t15
      · intro w' hT'
        simp only [List.getElem_toArray, List.getElem_cons_zero, List.getElem_cons_succ]
        go_wp2_with fail
        first | exact ⟨rfl, rfl, rfl⟩ | rfl
      apply wpS_read (i := 5) rfl rfl ⟨_, hS⟩ rfl -- Op.binOp BinOp.mul 3 (const (32:i64)) t133 3
      · intro w' hT'
        simp only [List.getElem_toArray, List.getElem_cons_zero, List.getElem_cons_succ]
        go_wp2_with (first
          | (refine slice_anyD rfl _ _ _ 24 rfl 5 undBytes sizeU8D A5 bl c5 i32 j32 32 rfl rfl rfl (by omega) (by have := (hT'.os 3 rfl).len.2.1; omega) (by omega) _ rfl ?_)
          | fail)
        first | exact ⟨rfl, rfl, rfl⟩ | rfl
      apply wpS_read (i := 6) rfl rfl ⟨_, hS⟩ rfl -- Op.binOp BinOp.add 3 t134 (const (32:i64)) 3
      · intro w' hT'
        simp only [List.getElem_toArray, List.getElem_cons_zero, List.getElem_cons_succ]
        go_wp2_with (first
          | (refine slice_anyD rfl _ _ _ 24 rfl 5 undBytes sizeU8D A5 bl c5 i32 j32 32 rfl rfl rfl (by omega) (by have := (hT'.os 3 rfl).len.2.1; omega) (by omega) _ rfl ?_)
          | fail)
        first | exact ⟨rfl, rfl, rfl⟩ | rfl
      apply wpS_read (i := 7) rfl rfl ⟨_, hS⟩ rfl -- Op.slice 24 t130 (some t132) (some t135) none
      · intro w' hT'
        simp only [List.getElem_toArray, List.getElem_cons_zero, List.getElem_cons_succ]
        go_wp2_with (first
          | (refine slice_anyD rfl _ _ _ 24 rfl 5 undBytes sizeU8D A5 bl c5 i32 j32 32 rfl rfl rfl (by omega) (by have := (hT'.os 3 rfl).len.2.1; omega) (by omega) _ rfl ?_)
          | fail)
        first | exact ⟨rfl, rfl, rfl⟩ | rfl
      refine wpS_soft (i := 8) rfl rfl rfl (Nat.le_of_ble_eq_true rfl) ?_ ?_ -- Op.call { value (Operand.func 17), args := #[t129, t136], argTypes :
      · intro w' hT
        simp only [List.getElem_toArray, List.getElem_cons_zero, List.getElem_cons_succ]
        go_wp2_with (first
          | (go_at_call 16; refine (same_calls Y Y (some ⟨g18, 0, none⟩) (cutA A5 c5 i32) 32 (c5 - i32) 32 32 _ hYL.out.symm hYL.out.symm (Blk.rdA (hT.blk 0 rfl)) (os_sub (hT.os 3 rfl) (by omega) HLFi.out) (by rw [hYL.out]; omega) (by rw [hYL.out]; omega)).mono ?_; rintro e w6 ⟨rfl, q6, rfl⟩; rw [decide_eq_true rfl]; have hB6 := below_drewN (Below.refl w'.heap.size w') q6)
          | fail)
        exact SoftP.mk' (.bool true) ([]) rfl (⟨rfl, rfl⟩) (hT.below hB6) (hB6) (fun _ h => by cases h)
      intro u8 E8 hK8
      obtain ⟨rfl, rfl⟩ := hK8
      simp only [Act.put, List.setIfInBounds_toArray, List.set_cons_zero, List.set_cons_succ]
      apply wpS_read (i := 9) rfl rfl ⟨_, hS⟩ rfl -- Op.unOp UnOp.not 4 t137
      · intro w' hT'
        simp only [List.getElem_toArray, List.getElem_cons_zero, List.getElem_cons_succ]
        go_wp2_with fail
        first | exact ⟨rfl, rfl, rfl⟩ | rfl
      refine wpS_end ?_
      intro wz hT
      try dsimp only
      clear hS
      have hS : HS NoF w wz [.blk g18 30 (ints .u8 Y), .oa 30 32 (.slice A1 n1 c1) (rowsOf (hs.take i)), .blk g10 32 D, .os 5 (.slice A5 bl c5) (ints .u8 bs), .blk g9 27 (ints .u8 K), .os 5 (.slice A3 m c3) (ints .u8 xs)] := hT
      clear hT
      go_wp2_with (first
          | (refine hs_loadW hS 0 rfl rfl 30 _ rfl rfl 32 infoHashS (by simp [hYL.out]) _ arrHashS rfl _ rfl ?_)
          | (refine literal_agg rfl 40 30 _ rfl (ints .u8 Y) 32 rfl (by simp [hYL.out]) undLHashT infoHashS zeroHashA (by omega) (by omega) ?_; intro g16 w16 hga hba hBa hsa; replace hS := hS.pushBlk hBa hba hga; clear hga hba hBa hsa)
          | (refine hs_appA hS 2 rfl rfl _ _ 40 rfl 32 undLHashT infoHashA (by omega) rfl g16 (ints .u8 Y) rfl (hS.blk 0 rfl) (by simp [hYL.out]) (ints_one' _ _) (by rw [HRLn.out]; omega) (by rw [HRLn.out]; omega) _ rfl ?_; clear hS; intro A4 n4 c4 w17 hn4 hc4 hS; clear hn4; rw [HRR.out] at hS; replace hS : HS NoF w w17 [.oa 30 32 (.slice A4 n4 c4) (rowsOf (hs.take (i + 1))), .blk g10 32 D, .os 5 (.slice A5 bl c5) (ints .u8 bs), .blk g9 27 (ints .u8 K), .os 5 (.slice A3 m c3) (ints .u8 xs)] := (hS.erase 0).erase 0)
          | fail)
      try go_wp2_with fail
      refine wp_region_S (F := NoF) (w0 := w) (L0 := [.oa 30 32 (.slice A4 n4 c4) (rowsOf (hs.take (i + 1))), .blk g10 32 D, .os 5 (.slice A5 bl c5) (ints .u8 bs), .blk g9 27 (ints .u8 K), .os 5 (.slice A3 m c3) (ints .u8 xs)]) [13] []
        (fun iK u E => match iK with
          | 13 => ∃ A6 c6, u = .tuple #[.slice A6 t c6, .int .i64 0] ∧ E = [.os 5 (.slice A6 t c6) (ints .u8 PC)]
          | _ => False)
        ([]) (by kernel_rfl) (by kernel_rfl) hS ?_
      show wpS _ _ _ _ _ _ _ _ _ _ [0, 1, 2, 3, 4, 5, 6, 7, 8, 9, 10, 11, 12, 13, 14, 15, 16, 17, 18] _
      apply wpS_read (i := 0) rfl rfl ⟨_, hS⟩ rfl -- Op.load 27 t9
      · intro w' hT'
        simp only [List.getElem_toArray, List.getElem_cons_zero, List.getElem_cons_succ]
        go_wp2_with (first
          | (refine hs_loadW hT' 3 rfl rfl 27 _ rfl rfl 32 infoKeyD (by simp [HK.out]) _ arrKeyD rfl _ rfl ?_)
          | (refine slice_anyD rfl _ _ _ 24 rfl 5 undBytes sizeU8D A5 bl c5 e0 h (t + 16) rfl rfl rfl (by omega) (by have := (hT'.os 2 rfl).len.2.1; omega) hh2 _ rfl ?_)
          | fail)
        first | exact ⟨rfl, rfl, rfl⟩ | rfl
      apply wpS_read (i := 1) rfl rfl ⟨_, hS⟩ rfl -- Op.move t15
      · intro w' hT'
        simp only [List.getElem_toArray, List.getElem_cons_zero, List.getElem_cons_succ]
        go_wp2_with fail
        first | exact ⟨rfl, rfl, rfl⟩ | rfl
      apply wpS_read (i := 2) rfl rfl ⟨_, hS⟩ rfl -- Op.convert 3 29 t145
      · intro w' hT'
        simp only [List.getElem_toArray, List.getElem_cons_zero, List.getElem_cons_succ]
        go_wp2_with (first
          | (refine hs_loadW hT' 3 rfl rfl 27 _ rfl rfl 32 infoKeyD (by simp [HK.out]) _ arrKeyD rfl _ rfl ?_)
          | (refine slice_anyD rfl _ _ _ 24 rfl 5 undBytes sizeU8D A5 bl c5 e0 h (t + 16) rfl rfl rfl (by omega) (by have := (hT'.os 2 rfl).len.2.1; omega) hh2 _ rfl ?_)
          | fail)
        first | exact ⟨rfl, rfl, rfl⟩ | rfl
      apply wpS_read (i := 3) rfl rfl ⟨_, hS⟩ rfl -- Op.move t15
      · intro w' hT'
        simp only [List.getElem_toArray, List.getElem_cons_zero, List.getElem_cons_succ]
        go_wp2_with fail
        first | exact ⟨rfl, rfl, rfl⟩ | rfl
      apply wpS_read (i := 4) rfl rfl ⟨_, hS⟩ rfl -- Op.move t12
      · intro w' hT'
        simp only [List.getElem_toArray, List.getElem_cons_zero, List.getElem_cons_succ]
        go_wp2_with fail
        first | exact ⟨rfl, rfl, rfl⟩ | rfl
      apply wpS_read (i := 5) rfl rfl ⟨_, hS⟩ rfl -- Op.binOp BinOp.sub 3 t148 (const (1:i64)) 3
      · intro w' hT'
        simp only [List.getElem_toArray, List.getElem_cons_zero, List.getElem_cons_succ]
        go_wp2_with (first
          | (refine hs_loadW hT' 3 rfl rfl 27 _ rfl rfl 32 infoKeyD (by simp [HK.out]) _ arrKeyD rfl _ rfl ?_)
          | (refine slice_anyD rfl _ _ _ 24 rfl 5 undBytes sizeU8D A5 bl c5 e0 h (t + 16) rfl rfl rfl (by omega) (by have := (hT'.os 2 rfl).len.2.1; omega) hh2 _ rfl ?_)
          | fail)
        first | exact ⟨rfl, rfl, rfl⟩ | rfl
      apply wpS_read (i := 6) rfl rfl ⟨_, hS⟩ rfl -- Op.binOp BinOp.eql 3 t147 t149 3
      · intro w' hT'
        simp only [List.getElem_toArray, List.getElem_cons_zero, List.getElem_cons_succ]
        go_wp2_with (first
          | (refine hs_loadW hT' 3 rfl rfl 27 _ rfl rfl 32 infoKeyD (by simp [HK.out]) _ arrKeyD rfl _ rfl ?_)
          | (refine slice_anyD rfl _ _ _ 24 rfl 5 undBytes sizeU8D A5 bl c5 e0 h (t + 16) rfl rfl rfl (by omega) (by have := (hT'.os 2 rfl).len.2.1; omega) hh2 _ rfl ?_)
          | fail)
        first | exact ⟨rfl, rfl, rfl⟩ | rfl
      apply wpS_read (i := 7) rfl rfl ⟨_, hS⟩ rfl -- Op.move t11
      · intro w' hT'
        simp only [List.getElem_toArray, List.getElem_cons_zero, List.getElem_cons_succ]
        go_wp2_with fail
        first | exact ⟨rfl, rfl, rfl⟩ | rfl
      apply wpS_read (i := 8) rfl rfl ⟨_, hS⟩ rfl -- Op.move t16
      · intro w' hT'
        simp only [List.getElem_toArray, List.getElem_cons_zero, List.getElem_cons_succ]
        go_wp2_with fail
        first | exact ⟨rfl, rfl, rfl⟩ | rfl
      apply wpS_read (i := 9) rfl rfl ⟨_, hS⟩ rfl -- Op.move t16
      · intro w' hT'
        simp only [List.getElem_toArray, List.getElem_cons_zero, List.getElem_cons_succ]
        go_wp2_with fail
        first | exact ⟨rfl, rfl, rfl⟩ | rfl
      apply wpS_read (i := 10) rfl rfl ⟨_, hS⟩ rfl -- Op.move t17
      · intro w' hT'
        simp only [List.getElem_toArray, List.getElem_cons_zero, List.getElem_cons_succ]
        go_wp2_with fail
        first | exact ⟨rfl, rfl, rfl⟩ | rfl
      apply wpS_read (i := 11) rfl rfl ⟨_, hS⟩ rfl -- Op.binOp BinOp.add 3 t153 t154 3
      · intro w' hT'
        simp only [List.getElem_toArray, List.getElem_cons_zero, List.getElem_cons_succ]
        go_wp2_with (first
          | (refine hs_loadW hT' 3 rfl rfl 27 _ rfl rfl 32 infoKeyD (by simp [HK.out]) _ arrKeyD rfl _ rfl ?_)
          | (refine slice_anyD rfl _ _ _ 24 rfl 5 undBytes sizeU8D A5 bl c5 e0 h (t + 16) rfl rfl rfl (by omega) (by have := (hT'.os 2 rfl).len.2.1; omega) hh2 _ rfl ?_)
          | fail)
        first | exact ⟨rfl, rfl, rfl⟩ | rfl
      apply wpS_read (i := 12) rfl rfl ⟨_, hS⟩ rfl -- Op.slice 24 t151 (some t152) (some t155) none
      · intro w' hT'
        simp only [List.getElem_toArray, List.getElem_cons_zero, List.getElem_cons_succ]
        go_wp2_with (first
          | (refine hs_loadW hT' 3 rfl rfl 27 _ rfl rfl 32 infoKeyD (by simp [HK.out]) _ arrKeyD rfl _ rfl ?_)
          | (refine slice_anyD rfl _ _ _ 24 rfl 5 undBytes sizeU8D A5 bl c5 e0 h (t + 16) rfl rfl rfl (by omega) (by have := (hT'.os 2 rfl).len.2.1; omega) hh2 _ rfl ?_)
          | fail)
        first | exact ⟨rfl, rfl, rfl⟩ | rfl
      refine wpS_soft (i := 13) rfl rfl rfl (Nat.le_of_ble_eq_true rfl) ?_ ?_ -- Op.call { value (Operand.func 18), args := #[t144, t146, t150, t156]
      · intro w' hT
        simp only [List.getElem_toArray, List.getElem_cons_zero, List.getElem_cons_succ]
        go_wp2_with (first
          | (go_at_call 17; refine (HOP.out (cutA A5 c5 e0) (c5 - e0) _ (by have := (hT.os 2 rfl).len.2.1; omega) (os_sub (hT.os 2 rfl) (by omega) HXB.out)).mono ?_; rintro e w6 ⟨v6, rfl, hop, hB6⟩; obtain ⟨hk0, ho6⟩ := hop; obtain ⟨A6, c6, h6, hc6, _⟩ := ho6.slice; rw [HPCL.out] at h6; subst h6)
          | fail)
        exact SoftP.mk' (.tuple #[.slice A6 t c6, .int .i64 0]) ([.os 5 (.slice A6 t c6) (ints .u8 PC)]) rfl (⟨A6, c6, rfl, rfl⟩) (hT.pushOwn hB6 ho6) (hB6) (fun e he j hj => by obtain rfl := List.mem_singleton.1 he; exact ho6.base_le j hj)
      intro u13 E13 hK13
      obtain ⟨A6, c6, rfl, rfl⟩ := hK13
      simp only [Act.put, List.setIfInBounds_toArray, List.set_cons_zero, List.set_cons_succ]
      apply wpS_read (i := 14) rfl rfl ⟨_, hS⟩ rfl -- Op.move t157
      · intro w' hT'
        simp only [List.getElem_toArray, List.getElem_cons_zero, List.getElem_cons_succ]
        go_wp2_with fail
        first | exact ⟨rfl, rfl, rfl⟩ | rfl
      apply wpS_read (i := 15) rfl rfl ⟨_, hS⟩ rfl -- Op.extract t143 0
      · intro w' hT'
        simp only [List.getElem_toArray, List.getElem_cons_zero, List.getElem_cons_succ]
        go_wp2_with fail
        first | exact ⟨rfl, rfl, rfl⟩ | rfl
      apply wpS_read (i := 16) rfl rfl ⟨_, hS⟩ rfl -- Op.extract t143 1
      · intro w' hT'
        simp only [List.getElem_toArray, List.getElem_cons_zero, List.getElem_cons_succ]
        go_wp2_with fail
        first | exact ⟨rfl, rfl, rfl⟩ | rfl
      apply wpS_read (i := 17) rfl rfl ⟨_, hS⟩ rfl -- Op.assign t158
      · intro w' hT'
        simp only [List.getElem_toArray, List.getElem_cons_zero, List.getElem_cons_succ]
        go_wp2_with fail
        first | exact ⟨rfl, rfl, rfl⟩ | rfl
      apply wpS_read (i := 18) rfl rfl ⟨_, hS⟩ rfl -- Op.assign t159
      · intro w' hT'
        simp only [List.getElem_toArray, List.getElem_cons_zero, List.getElem_cons_succ]
        go_wp2_with fail
        first | exact ⟨rfl, rfl, rfl⟩ | rfl
      refine wpS_end ?_
      intro wz hT
      try dsimp only
      clear hS
      have hS : HS NoF w wz [.os 5 (.slice A6 t c6) (ints .u8 PC), .oa 30 32 (.slice A4 n4 c4) (rowsOf (hs.take (i + 1))), .blk g10 32 D, .os 5 (.slice A5 bl c5) (ints .u8 bs), .blk g9 27 (ints .u8 K), .os 5 (.slice A3 m c3) (ints .u8 xs)] := hT
      clear hT
      rcases Nat.lt_or_ge m f2 with hmf | hmf
      · have hmin : ¬ (f2 : Int) ≤ (m : Int) := by omega
        have hft : Hd (f + t = m) := hid (by have := HT.out; omega)
        go_wp2_with (first
            | (refine slice_anyD rfl _ _ _ 24 rfl 5 undBytes sizeU8D A3 m c3 f m t rfl rfl (by show Value.int IntKind.i64 (min (f2 : Int) (m : Int)) = Value.int IntKind.i64 (m : Int); congr 1; omega) (by have := hft.out; omega) (by have := (hS.os 5 rfl).len.2.1; omega) (by have := hft.out; omega) _ rfl ?_)
            | (go_at_call 16; refine (same_calls PC PC A6 (cutA A3 c3 f) c6 (c3 - f) t t _ HPCL.out.symm HPCL.out.symm ((hS.os 0 rfl).rd rfl) (os_sub (hS.os 5 rfl) (by omega) HFILE.out) (by rw [HPCL.out]; omega) (by rw [HPCL.out]; omega)).mono ?_; rintro e w19 ⟨rfl, q6, rfl⟩; rw [decide_eq_true rfl]; replace hS := hS.drewN q6)
            | fail)
        replace hS := hS.erase 0
        go_roundg (gk - 1)
        case measure => have := hqq.out; omega
        case rel => exact ⟨i + 1, h, A4, n4, c4, by omega, rfl, rfl, by go_num, hid (by have := hqq.out; omega), hid (by rw [HF2.out]; have := HEE.out; have := HF.out; have := hft.out; omega), hS⟩
      · have hmin : (f2 : Int) ≤ (m : Int) := by omega
        have hft : Hd (f + t = f2) := hid (by have := HT.out; omega)
        go_wp2_with (first
            | (refine slice_anyD rfl _ _ _ 24 rfl 5 undBytes sizeU8D A3 m c3 f f2 t rfl rfl (by show Value.int IntKind.i64 (min (f2 : Int) (m : Int)) = Value.int IntKind.i64 (f2 : Int); congr 1; omega) (by have := hft.out; omega) (by have := (hS.os 5 rfl).len.2.1; omega) (by have := hft.out; omega) _ rfl ?_)
            | (go_at_call 16; refine (same_calls PC PC A6 (cutA A3 c3 f) c6 (c3 - f) t t _ HPCL.out.symm HPCL.out.symm ((hS.os 0 rfl).rd rfl) (os_sub (hS.os 5 rfl) (by omega) HFILE.out) (by rw [HPCL.out]; omega) (by rw [HPCL.out]; omega)).mono ?_; rintro e w19 ⟨rfl, q6, rfl⟩; rw [decide_eq_true rfl]; replace hS := hS.drewN q6)
            | fail)
        replace hS := hS.erase 0
        go_roundg (gk - 1)
        case measure => have := hqq.out; omega
        case rel => exact ⟨i + 1, h, A4, n4, c4, by omega, rfl, rfl, by go_num, hid (by have := hqq.out; omega), hid (by rw [HF2.out]; have := HEE.out; have := HF.out; have := hft.out; omega), hS⟩
    · have hlt2 : ¬ (i : Int) < N := by omega
      obtain rfl : N = i := by omega
      have hend : e0 = bl := by
        have h1 := congrArg List.length HTA.out
        rw [List.length_take, HX.out, Int.toNat_natCast] at h1
        rw [HEE.out]; omega
      obtain rfl := hend.symm
      rw [List.take_of_length_le (by rw [HHL.out]; omega)] at hS
      clear hlt HEE
      go_wp2_with (first
          | (refine hs_loadW hS 1 rfl rfl 32 _ rfl rfl 99 sizeDesc HDL.out _ undDesc.choose_spec rfl _ rfl ?_)
          | (go_at_call 14; refine (HP0.out _).mono ?_; rintro e w6 ⟨rfl, hB⟩; replace hS : HS NoF w w6 [.oa 30 32 (.slice A1 n1 c1) (rowsOf hs), .blk g10 32 D, .os 5 (.slice A5 bl c5) (ints .u8 bs), .blk g9 27 (ints .u8 K), .os 5 (.slice A3 m c3) (ints .u8 xs)] := hS.below hB; clear hB)
          | fail)
      try go_wp2_with fail
      refine wp_region_S (F := NoF) (w0 := w) (L0 := [.oa 30 32 (.slice A1 n1 c1) (rowsOf hs), .blk g10 32 D, .os 5 (.slice A5 bl c5) (ints .u8 bs), .blk g9 27 (ints .u8 K), .os 5 (.slice A3 m c3) (ints .u8 xs)]) [0, 2, 6] [7]
        (fun iK u E => match iK with
          | 0 => ∃ gw, u = .slice (some ⟨gw, 0, none⟩) 601 601 ∧ E = [.os 5 (.slice (some ⟨gw, 0, none⟩) 601 601) (ints .u8 (List.replicate 601 0))]
          | 2 => u = .tuple #[.agg D0.toArray, .slice none 0 0] ∧ E = []
          | 6 => ∃ g23, u = .pointer (some ⟨g23, 0, none⟩) ∧ E = [.blk g23 32 D0]
          | _ => False)
        ([]) (by kernel_rfl) (by kernel_rfl) hS ?_
      show wpS _ _ _ _ _ _ _ _ _ _ [0, 1, 2, 3, 4, 5, 6, 7, 8] _
      refine wpS_soft (i := 0) rfl rfl rfl (Nat.le_of_ble_eq_true rfl) ?_ ?_ -- Op.makeSlice 24 (const (601:i64)) (const (601:i64))
      · intro w' hT
        simp only [List.getElem_toArray, List.getElem_cons_zero, List.getElem_cons_succ]
        go_wp2_with (first
          | (refine make_zeros rfl _ _ 24 rfl 5 .u8 1 undBytes infoU8 _ _ _ _ 601 rfl rfl rfl rfl (by omega) (by unfold maxLen; omega) ?_; intro gw wb hgb hob hBb)
          | fail)
        exact SoftP.mk' (.slice (some ⟨gw, 0, none⟩) 601 601) ([.os 5 (.slice (some ⟨gw, 0, none⟩) 601 601) (ints .u8 (List.replicate 601 0))]) rfl (⟨gw, rfl, rfl⟩) (hT.push hBb _ hob.os (fun j hj => Nat.le_of_eq (hgb.trans (by simpa [Ent.os, Value.ownBlock] using hj)))) (hBb) (fun e he j hj => by obtain rfl := List.mem_singleton.1 he; exact Nat.le_of_eq (hgb.trans (by simpa [Ent.os, Value.ownBlock] using hj)))
      intro u0 E0 hK0
      obtain ⟨gw, rfl, rfl⟩ := hK0
      simp only [Act.put, List.setIfInBounds_toArray, List.set_cons_zero, List.set_cons_succ]
      apply wpS_read (i := 1) rfl rfl ⟨_, hS⟩ rfl -- Op.load 27 t9
      · intro w' hT'
        simp only [List.getElem_toArray, List.getElem_cons_zero, List.getElem_cons_succ]
        go_wp2_with (first
          | (refine hs_loadW hT' 3 rfl rfl 27 _ rfl rfl 32 infoKeyD (by simp [HK.out]) _ arrKeyD rfl _ rfl ?_)
          | fail)
        first | exact ⟨rfl, rfl, rfl⟩ | rfl
      refine wpS_soft (i := 2) rfl rfl rfl (Nat.le_of_ble_eq_true rfl) ?_ ?_ -- Op.call { value (Operand.func 11), args := #[const (1:u32), t185, co
      · intro w' hT
        simp only [List.getElem_toArray, List.getElem_cons_zero, List.getElem_cons_succ]
        go_wp2_with fail
        refine (HLONG.out (some ⟨gw, 0, none⟩) 601 _).mono ?_
        rintro e w6 ⟨rfl, hB6⟩
        go_wp2_with fail
        exact SoftP.mk' (.tuple #[.agg D0.toArray, .slice none 0 0]) ([]) rfl (⟨rfl, rfl⟩) (hT.below hB6) (hB6) (fun _ h => by cases h)
      intro u2 E2 hK2
      obtain ⟨rfl, rfl⟩ := hK2
      simp only [Act.put, List.setIfInBounds_toArray, List.set_cons_zero, List.set_cons_succ]
      apply wpS_read (i := 3) rfl rfl ⟨_, hS⟩ rfl -- Op.move t187
      · intro w' hT'
        simp only [List.getElem_toArray, List.getElem_cons_zero, List.getElem_cons_succ]
        go_wp2_with fail
        first | exact ⟨rfl, rfl, rfl⟩ | rfl
      apply wpS_read (i := 4) rfl rfl ⟨_, hS⟩ rfl -- Op.extract t184 0
      · intro w' hT'
        simp only [List.getElem_toArray, List.getElem_cons_zero, List.getElem_cons_succ]
        go_wp2_with fail
        first | exact ⟨rfl, rfl, rfl⟩ | rfl
      apply wpS_read (i := 5) rfl rfl ⟨_, hS⟩ rfl -- Op.extract t184 1
      · intro w' hT'
        simp only [List.getElem_toArray, List.getElem_cons_zero, List.getElem_cons_succ]
        go_wp2_with fail
        first | exact ⟨rfl, rfl, rfl⟩ | rfl
      refine wpS_soft (i := 6) rfl rfl rfl (Nat.le_of_ble_eq_true rfl) ?_ ?_ -- Op.alloc 32
      · intro w' hT
        simp only [List.getElem_toArray, List.getElem_cons_zero, List.getElem_cons_succ]
        go_wp2_with (first
          | (refine alloc_blk rfl 32 rfl _ rfl D0 HZD.out ?_; intro g23 wa hga hba hBa hsa)
          | fail)
        exact SoftP.mk' (.pointer (some ⟨g23, 0, none⟩)) ([.blk g23 32 D0]) rfl (⟨g23, rfl, rfl⟩) (hT.pushBlk hBa hba hga) (hBa) (fun e he j hj => by obtain rfl := List.mem_singleton.1 he; exact Nat.le_of_eq (hga.trans (Eq.symm hj)))
      intro u6 E6 hK6
      obtain ⟨g23, rfl, rfl⟩ := hK6
      simp only [Act.put, List.setIfInBounds_toArray, List.set_cons_zero, List.set_cons_succ]
      refine wpS_hard (i := 7) rfl rfl ?_ -- Op.store 32 t23 t188
      intro w7 hT
      replace hT : HS NoF w w7 [.blk g23 32 D0, .os 5 (.slice (some ⟨gw, 0, none⟩) 601 601) (ints .u8 (List.replicate 601 0)), .oa 30 32 (.slice A1 n1 c1) (rowsOf hs), .blk g10 32 D, .os 5 (.slice A5 bl c5) (ints .u8 bs), .blk g9 27 (ints .u8 K), .os 5 (.slice A3 m c3) (ints .u8 xs)] := hT
      simp only [List.getElem_toArray, List.getElem_cons_zero, List.getElem_cons_succ]
      go_wp2_with (first
        | (refine hs_storeW hT 0 rfl rfl 32 _ _ rfl rfl D0 rfl HZO.out 99 sizeDesc HZ1.out HZ1.out _ rfl ?_; clear hT; intro w9 hT)
        | fail)
      refine HardP.mk' ([.blk g23 32 D0, .os 5 (.slice (some ⟨gw, 0, none⟩) 601 601) (ints .u8 (List.replicate 601 0))]) rfl ?_ ?_
      · exact hT
      clear hT
      apply wpS_read (i := 8) rfl rfl ⟨_, hS⟩ rfl -- Op.assign t189
      · intro w' hT'
        simp only [List.getElem_toArray, List.getElem_cons_zero, List.getElem_cons_succ]
        go_wp2_with fail
        first | exact ⟨rfl, rfl, rfl⟩ | rfl
      refine wpS_end ?_
      intro wz hT
      try dsimp only
      clear hS
      have hS : HS NoF w wz [.oa 30 32 (.slice A1 n1 c1) (rowsOf hs), .blk g10 32 D, .os 5 (.slice A5 bl c5) (ints .u8 bs), .blk g9 27 (ints .u8 K), .os 5 (.slice A3 m c3) (ints .u8 xs)] := (hT.erase 0).erase 0
      clear hT
      try go_wp2_with fail
      try go_wp2_with fail
      refine wp_region_S (F := NoF) (w0 := w) (L0 := [.oa 30 32 (.slice A1 n1 c1) (rowsOf hs), .blk g10 32 D, .os 5 (.slice A5 bl c5) (ints .u8 bs), .blk g9 27 (ints .u8 K), .os 5 (.slice A3 m c3) (ints .u8 xs)]) [11, 29, 30] []
        (fun iK u E => match iK with
          | 11 => u = .agg (ints .u8 RT).toArray ∧ E = []
          | 29 => u = errV (P 1) ∧ E = []
          | 30 => u = .bool true ∧ E = []
          | _ => False)
        ([]) (by kernel_rfl) (by kernel_rfl) hS ?_
      show wpS _ _ _ _ _ _ _ _ _ _ [0, 1, 2, 3, 4, 5, 6, 7, 8, 9, 10, 11, 12, 13, 14, 15, 16, 17, 18, 19, 20, 21, 22, 23, 24, 25, 26, 27, 28, 29, 30, 31, 32] _
      apply wpS_read (i := 0) rfl rfl ⟨_, hS⟩ rfl -- Op.move t7
      · intro w' hT'
        simp only [List.getElem_toArray, List.getElem_cons_zero, List.getElem_cons_succ]
        go_wp2_with fail
        first | exact ⟨rfl, rfl, rfl⟩ | rfl
      apply wpS_read (i := 1) rfl rfl ⟨_, hS⟩ rfl -- Op.move t190
      · intro w' hT'
        simp only [List.getElem_toArray, List.getElem_cons_zero, List.getElem_cons_succ]
        go_wp2_with fail
        first | exact ⟨rfl, rfl, rfl⟩ | rfl
      apply wpS_read (i := 2) rfl rfl ⟨_, hS⟩ rfl -- Op.move t13
      · intro w' hT'
        simp only [List.getElem_toArray, List.getElem_cons_zero, List.getElem_cons_succ]
        go_wp2_with fail
        first | exact ⟨rfl, rfl, rfl⟩ | rfl
      apply wpS_read (i := 3) rfl rfl ⟨_, hS⟩ rfl -- Op.move t11
      · intro w' hT'
        simp only [List.getElem_toArray, List.getElem_cons_zero, List.getElem_cons_succ]
        go_wp2_with fail
        first | exact ⟨rfl, rfl, rfl⟩ | rfl
      apply wpS_read (i := 4) rfl rfl ⟨_, hS⟩ rfl -- Op.call { builtin len, args := #[t193], argTypes := #[24] }
      · intro w' hT'
        simp only [List.getElem_toArray, List.getElem_cons_zero, List.getElem_cons_succ]
        go_wp2_with fail
        first | exact ⟨rfl, rfl, rfl⟩ | rfl
      apply wpS_read (i := 5) rfl rfl ⟨_, hS⟩ rfl -- Op.binOp BinOp.eql 3 t192 t194 3
      · intro w' hT'
        simp only [List.getElem_toArray, List.getElem_cons_zero, List.getElem_cons_succ]
        go_wp2_with (first
          | (refine hs_loadN hT' 1 rfl rfl 30 _ rfl 35 rfl (ints .u8 RT) HR35.out 32 infoHashD (by simp [HRL.out]) _ arrHashD rfl _ rfl ?_)
          | (refine bin_toD rfl _ _ _ _ _ rfl (ints .u8 RT).toArray (ints .u8 RT).toArray rfl rfl guardHash (.bool true) (hash_eql _ HRL.out) _ rfl ?_)
          | (refine build_to rfl 32 _ rfl D65.toArray (by rw [Array.toList_map]; exact HB65.out) ?_)
          | fail)
        first | exact ⟨rfl, rfl, rfl⟩ | rfl
      apply wpS_read (i := 6) rfl rfl ⟨_, hS⟩ rfl -- Op.pick t191 t195 (const (Value.bool false))
      · intro w' hT'
        simp only [List.getElem_toArray, List.getElem_cons_zero, List.getElem_cons_succ]
        go_wp2_with fail
        first | exact ⟨rfl, rfl, rfl⟩ | rfl
      apply wpS_read (i := 7) rfl rfl ⟨_, hS⟩ rfl -- Op.move t196
      · intro w' hT'
        simp only [List.getElem_toArray, List.getElem_cons_zero, List.getElem_cons_succ]
        go_wp2_with fail
        first | exact ⟨rfl, rfl, rfl⟩ | rfl
      apply wpS_read (i := 8) rfl rfl ⟨_, hS⟩ rfl -- Op.fieldAddr 32 t10 4
      · intro w' hT'
        simp only [List.getElem_toArray, List.getElem_cons_zero, List.getElem_cons_succ]
        go_wp2_with fail
        first | exact ⟨rfl, rfl, rfl⟩ | rfl
      apply wpS_read (i := 9) rfl rfl ⟨_, hS⟩ rfl -- Op.load 30 t198
      · intro w' hT'
        simp only [List.getElem_toArray, List.getElem_cons_zero, List.getElem_cons_succ]
        go_wp2_with (first
          | (refine hs_loadN hT' 1 rfl rfl 30 _ rfl 35 rfl (ints .u8 RT) HR35.out 32 infoHashD (by simp [HRL.out]) _ arrHashD rfl _ rfl ?_)
          | (refine bin_toD rfl _ _ _ _ _ rfl (ints .u8 RT).toArray (ints .u8 RT).toArray rfl rfl guardHash (.bool true) (hash_eql _ HRL.out) _ rfl ?_)
          | (refine build_to rfl 32 _ rfl D65.toArray (by rw [Array.toList_map]; exact HB65.out) ?_)
          | fail)
        first | exact ⟨rfl, rfl, rfl⟩ | rfl
      apply wpS_read (i := 10) rfl rfl ⟨_, hS⟩ rfl -- Op.move t14
      · intro w' hT'
        simp only [List.getElem_toArray, List.getElem_cons_zero, List.getElem_cons_succ]
        go_wp2_with fail
        first | exact ⟨rfl, rfl, rfl⟩ | rfl
      refine wpS_soft (i := 11) rfl rfl rfl (Nat.le_of_ble_eq_true rfl) ?_ ?_ -- Op.call { value (Operand.func 19), args := #[t200], argTypes := #[40
      · intro w' hT
        simp only [List.getElem_toArray, List.getElem_cons_zero, List.getElem_cons_succ]
        go_wp2_with (first
          | (go_at_call 18; refine (root16_calls N hs A1 n1 c1 _ (ownA_hrd (hT.oa 0 rfl)).2.1.symm (by rw [(ownA_hrd (hT.oa 0 rfl)).2.1, HHL.out]; omega) (ownA_hrd (hT.oa 0 rfl)).1 HH32.out (ownA_hrd (hT.oa 0 rfl)).2.2 (by rw [(ownA_hrd (hT.oa 0 rfl)).2.1, HHL.out]; omega)).mono ?_; rintro e w6 ⟨rfl, hB6⟩; rw [HRE.out])
          | fail)
        exact SoftP.mk' (.agg (ints .u8 RT).toArray) ([]) rfl (⟨rfl, rfl⟩) (hT.below hB6) (hB6) (fun _ h => by cases h)
      intro u11 E11 hK11
      obtain ⟨rfl, rfl⟩ := hK11
      simp only [Act.put, List.setIfInBounds_toArray, List.set_cons_zero, List.set_cons_succ]
      apply wpS_read (i := 12) rfl rfl ⟨_, hS⟩ rfl -- Op.binOp BinOp.eql 30 t199 t201 30
      · intro w' hT'
        simp only [List.getElem_toArray, List.getElem_cons_zero, List.getElem_cons_succ]
        go_wp2_with (first
          | (refine hs_loadN hT' 1 rfl rfl 30 _ rfl 35 rfl (ints .u8 RT) HR35.out 32 infoHashD (by simp [HRL.out]) _ arrHashD rfl _ rfl ?_)
          | (refine bin_toD rfl _ _ _ _ _ rfl (ints .u8 RT).toArray (ints .u8 RT).toArray rfl rfl guardHash (.bool true) (hash_eql _ HRL.out) _ rfl ?_)
          | (refine build_to rfl 32 _ rfl D65.toArray (by rw [Array.toList_map]; exact HB65.out) ?_)
          | fail)
        first | exact ⟨rfl, rfl, rfl⟩ | rfl
      apply wpS_read (i := 13) rfl rfl ⟨_, hS⟩ rfl -- Op.pick t197 t202 (const (Value.bool false))
      · intro w' hT'
        simp only [List.getElem_toArray, List.getElem_cons_zero, List.getElem_cons_succ]
        go_wp2_with fail
        first | exact ⟨rfl, rfl, rfl⟩ | rfl
      apply wpS_read (i := 14) rfl rfl ⟨_, hS⟩ rfl -- Op.move t203
      · intro w' hT'
        simp only [List.getElem_toArray, List.getElem_cons_zero, List.getElem_cons_succ]
        go_wp2_with fail
        first | exact ⟨rfl, rfl, rfl⟩ | rfl
      apply wpS_read (i := 15) rfl rfl ⟨_, hS⟩ rfl -- Op.move t21
      · intro w' hT'
        simp only [List.getElem_toArray, List.getElem_cons_zero, List.getElem_cons_succ]
        go_wp2_with fail
        first | exact ⟨rfl, rfl, rfl⟩ | rfl
      apply wpS_read (i := 16) rfl rfl ⟨_, hS⟩ rfl -- Op.binOp BinOp.eql 3 t205 (const (0:i64)) 3
      · intro w' hT'
        simp only [List.getElem_toArray, List.getElem_cons_zero, List.getElem_cons_succ]
        go_wp2_with (first
          | (refine hs_loadN hT' 1 rfl rfl 30 _ rfl 35 rfl (ints .u8 RT) HR35.out 32 infoHashD (by simp [HRL.out]) _ arrHashD rfl _ rfl ?_)
          | (refine bin_toD rfl _ _ _ _ _ rfl (ints .u8 RT).toArray (ints .u8 RT).toArray rfl rfl guardHash (.bool true) (hash_eql _ HRL.out) _ rfl ?_)
          | (refine build_to rfl 32 _ rfl D65.toArray (by rw [Array.toList_map]; exact HB65.out) ?_)
          | fail)
        first | exact ⟨rfl, rfl, rfl⟩ | rfl
      apply wpS_read (i := 17) rfl rfl ⟨_, hS⟩ rfl -- Op.pick t204 t206 (const (Value.bool false))
      · intro w' hT'
        simp only [List.getElem_toArray, List.getElem_cons_zero, List.getElem_cons_succ]
        go_wp2_with fail
        first | exact ⟨rfl, rfl, rfl⟩ | rfl
      apply wpS_read (i := 18) rfl rfl ⟨_, hS⟩ rfl -- Op.move t207
      · intro w' hT'
        simp only [List.getElem_toArray, List.getElem_cons_zero, List.getElem_cons_succ]
        go_wp2_with fail
        first | exact ⟨rfl, rfl, rfl⟩ | rfl
      apply wpS_read (i := 19) rfl rfl ⟨_, hS⟩ rfl -- Op.move t22
      · intro w' hT'
        simp only [List.getElem_toArray, List.getElem_cons_zero, List.getElem_cons_succ]
        go_wp2_with fail
        first | exact ⟨rfl, rfl, rfl⟩ | rfl
      apply wpS_read (i := 20) rfl rfl ⟨_, hS⟩ rfl -- Op.binOp BinOp.eql 3 t209 (const (0:i64)) 3
      · intro w' hT'
        simp only [List.getElem_toArray, List.getElem_cons_zero, List.getElem_cons_succ]
        go_wp2_with (first
          | (refine hs_loadN hT' 1 rfl rfl 30 _ rfl 35 rfl (ints .u8 RT) HR35.out 32 infoHashD (by simp [HRL.out]) _ arrHashD rfl _ rfl ?_)
          | (refine bin_toD rfl _ _ _ _ _ rfl (ints .u8 RT).toArray (ints .u8 RT).toArray rfl rfl guardHash (.bool true) (hash_eql _ HRL.out) _ rfl ?_)
          | (refine build_to rfl 32 _ rfl D65.toArray (by rw [Array.toList_map]; exact HB65.out) ?_)
          | fail)
        first | exact ⟨rfl, rfl, rfl⟩ | rfl
      apply wpS_read (i := 21) rfl rfl ⟨_, hS⟩ rfl -- Op.pick t208 t210 (const (Value.bool false))
      · intro w' hT'
        simp only [List.getElem_toArray, List.getElem_cons_zero, List.getElem_cons_succ]
        go_wp2_with fail
        first | exact ⟨rfl, rfl, rfl⟩ | rfl
      apply wpS_read (i := 22) rfl rfl ⟨_, hS⟩ rfl -- Op.move t211
      · intro w' hT'
        simp only [List.getElem_toArray, List.getElem_cons_zero, List.getElem_cons_succ]
        go_wp2_with fail
        first | exact ⟨rfl, rfl, rfl⟩ | rfl
      apply wpS_read (i := 23) rfl rfl ⟨_, hS⟩ rfl -- Op.move t24
      · intro w' hT'
        simp only [List.getElem_toArray, List.getElem_cons_zero, List.getElem_cons_succ]
        go_wp2_with fail
        first | exact ⟨rfl, rfl, rfl⟩ | rfl
      apply wpS_read (i := 24) rfl rfl ⟨_, hS⟩ rfl -- Op.call { builtin len, args := #[t213], argTypes := #[24] }
      · intro w' hT'
        simp only [List.getElem_toArray, List.getElem_cons_zero, List.getElem_cons_succ]
        go_wp2_with fail
        first | exact ⟨rfl, rfl, rfl⟩ | rfl
      apply wpS_read (i := 25) rfl rfl ⟨_, hS⟩ rfl -- Op.binOp BinOp.eql 3 t214 (const (0:i64)) 3
      · intro w' hT'
        simp only [List.getElem_toArray, List.getElem_cons_zero, List.getElem_cons_succ]
        go_wp2_with (first
          | (refine hs_loadN hT' 1 rfl rfl 30 _ rfl 35 rfl (ints .u8 RT) HR35.out 32 infoHashD (by simp [HRL.out]) _ arrHashD rfl _ rfl ?_)
          | (refine bin_toD rfl _ _ _ _ _ rfl (ints .u8 RT).toArray (ints .u8 RT).toArray rfl rfl guardHash (.bool true) (hash_eql _ HRL.out) _ rfl ?_)
          | (refine build_to rfl 32 _ rfl D65.toArray (by rw [Array.toList_map]; exact HB65.out) ?_)
          | fail)
        first | exact ⟨rfl, rfl, rfl⟩ | rfl
      apply wpS_read (i := 26) rfl rfl ⟨_, hS⟩ rfl -- Op.pick t212 t215 (const (Value.bool false))
      · intro w' hT'
        simp only [List.getElem_toArray, List.getElem_cons_zero, List.getElem_cons_succ]
        go_wp2_with fail
        first | exact ⟨rfl, rfl, rfl⟩ | rfl
      apply wpS_read (i := 27) rfl rfl ⟨_, hS⟩ rfl -- Op.move t216
      · intro w' hT'
        simp only [List.getElem_toArray, List.getElem_cons_zero, List.getElem_cons_succ]
        go_wp2_with fail
        first | exact ⟨rfl, rfl, rfl⟩ | rfl
      apply wpS_read (i := 28) rfl rfl ⟨_, hS⟩ rfl -- Op.build 32 #[(2, const (65:u32))]
      · intro w' hT'
        simp only [List.getElem_toArray, List.getElem_cons_zero, List.getElem_cons_succ]
        go_wp2_with (first
          | (refine hs_loadN hT' 1 rfl rfl 30 _ rfl 35 rfl (ints .u8 RT) HR35.out 32 infoHashD (by simp [HRL.out]) _ arrHashD rfl _ rfl ?_)
          | (refine bin_toD rfl _ _ _ _ _ rfl (ints .u8 RT).toArray (ints .u8 RT).toArray rfl rfl guardHash (.bool true) (hash_eql _ HRL.out) _ rfl ?_)
          | (refine build_to rfl 32 _ rfl D65.toArray (by rw [Array.toList_map]; exact HB65.out) ?_)
          | fail)
        first | exact ⟨rfl, rfl, rfl⟩ | rfl
      refine wpS_soft (i := 29) rfl rfl rfl (Nat.le_of_ble_eq_true rfl) ?_ ?_ -- Op.call { value (Operand.func 12), args := #[t218], argTypes := #[32
      · intro w' hT
        simp only [List.getElem_toArray, List.getElem_cons_zero, List.getElem_cons_succ]
        go_wp2_with (first
          | (go_at_call 11; refine (HC65.out _ (HE.out.below hT.bel)).mono ?_; rintro e w6 ⟨rfl, hB6⟩)
          | fail)
        exact SoftP.mk' (errV (P 1)) ([]) rfl (⟨rfl, rfl⟩) (hT.below hB6) (hB6) (fun _ h => by cases h)
      intro u29 E29 hK29
      obtain ⟨rfl, rfl⟩ := hK29
      simp only [Act.put, List.setIfInBounds_toArray, List.set_cons_zero, List.set_cons_succ]
      refine wpS_soft (i := 30) rfl rfl rfl (Nat.le_of_ble_eq_true rfl) ?_ ?_ -- Op.call { value (Operand.func 20), args := #[t219, const (102:i64)],
      · intro w' hT
        simp only [List.getElem_toArray, List.getElem_cons_zero, List.getElem_cons_succ]
        go_wp2_with (first
          | (go_at_call 19; refine (is_err_calls 102 (HE.out.below hT.bel) 1 (by omega)).mono ?_; rintro e w6 ⟨rfl, hB6⟩; rw [show (101 + ((1 : Nat) : Int) == 102) = true from rfl])
          | fail)
        exact SoftP.mk' (.bool true) ([]) rfl (⟨rfl, rfl⟩) (hT.below hB6) (hB6) (fun _ h => by cases h)
      intro u30 E30 hK30
      obtain ⟨rfl, rfl⟩ := hK30
      simp only [Act.put, List.setIfInBounds_toArray, List.set_cons_zero, List.set_cons_succ]
      apply wpS_read (i := 31) rfl rfl ⟨_, hS⟩ rfl -- Op.pick t217 t220 (const (Value.bool false))
      · intro w' hT'
        simp only [List.getElem_toArray, List.getElem_cons_zero, List.getElem_cons_succ]
        go_wp2_with fail
        first | exact ⟨rfl, rfl, rfl⟩ | rfl
      apply wpS_read (i := 32) rfl rfl ⟨_, hS⟩ rfl -- Op.assign t221
      · intro w' hT'
        simp only [List.getElem_toArray, List.getElem_cons_zero, List.getElem_cons_succ]
        go_wp2_with fail
        first | exact ⟨rfl, rfl, rfl⟩ | rfl
      refine wpS_end ?_
      intro wz hT
      try dsimp only
      clear hS
      have hS : HS NoF w wz [.oa 30 32 (.slice A1 n1 c1) (rowsOf hs), .blk g10 32 D, .os 5 (.slice A5 bl c5) (ints .u8 bs), .blk g9 27 (ints .u8 K), .os 5 (.slice A3 m c3) (ints .u8 xs)] := hT
      clear hT
      go_wp2_with fail
      go_ret
      exact ⟨rfl, hS.bel⟩
end Go.Proofs.YtlikinglgegclaaDoor
