import Derived.Laws.BitsAllLaws
import Derived.Test.YtlikinglgegclaaDoorMgDB0
import Derived.Test.YtlikinglgegclaaDoorMgDB1
import Derived.Test.YtlikinglgegclaaDoorMgDB2
import Derived.Test.YtlikinglgegclaaDoorMgDB3
import Derived.Test.YtlikinglgegclaaDoorMgDB4
import Derived.Test.YtlikinglgegclaaDoorMgDB5
import Derived.Test.YtlikinglgegclaaDoorMgDB6
import Derived.Test.YtlikinglgegclaaDoorMgDB7
import Derived.Test.YtlikinglgegclaaDoorMgDB8
import Derived.Test.YtlikinglgegclaaDoorMgDB9
import Derived.Test.YtlikinglgegclaaDoorMgDB10
import Derived.Test.YtlikinglgegclaaDoorMgDB11
import Derived.Test.YtlikinglgegclaaDoorMgDB12
import Derived.Test.YtlikinglgegclaaDoorMgDB13
import Derived.Test.YtlikinglgegclaaDoorMgDB14
import Derived.Test.YtlikinglgegclaaDoorMgDB15
import Derived.Test.YtlikinglgegclaaDoorMgDB16
set_option linter.unusedSimpArgs false
set_option linter.unusedVariables false
/- A number's four bytes are that number. -/
namespace Go.Proofs.YtlikinglgegclaaDoor
open Go.RowKit Go.Cour
theorem le4_bytes (x : Int) (h : 0 ≤ x ∧ x < 4294967296) : ∀ y ∈ le4 x, 0 ≤ y ∧ y < 256 := fun y hy => by
  simp only [le4, List.mem_cons, List.not_mem_nil, or_false] at hy
  rcases hy with rfl | rfl | rfl | rfl <;> omega
theorem or_low (a b k : Nat) (ha : a < 2 ^ k) : (a ||| (b * 2 ^ k)) = a + b * 2 ^ k := by
  rw [Nat.mul_comm, Nat.or_comm, ← Nat.two_pow_add_eq_or_of_lt ha, Nat.add_comm]
theorem word4_le4 (x : Int) (h : 0 ≤ x ∧ x < 4294967296) : word4 (x % 256) (x / 256 % 256) (x / 65536 % 256) (x / 16777216) = x := by
  obtain ⟨n, rfl⟩ : ∃ n : Nat, x = (n : Int) := ⟨x.toNat, by omega⟩
  have hn : n < 4294967296 := by omega
  unfold word4
  rw [show (n : Int) % 256 = ((n % 256 : Nat) : Int) by omega, show (n : Int) / 256 % 256 * 256 = ((n / 256 % 256 * 2 ^ 8 : Nat) : Int) by omega, show (n : Int) / 65536 % 256 * 65536 = ((n / 65536 % 256 * 2 ^ 16 : Nat) : Int) by omega, show (n : Int) / 16777216 * 16777216 = ((n / 16777216 * 2 ^ 24 : Nat) : Int) by omega]
  rw [u32_or_nat _ _ (by omega) (by omega), or_low _ _ 8 (by omega), u32_or_nat _ _ (by omega) (by omega), or_low _ _ 16 (by omega), u32_or_nat _ _ (by omega) (by omega), or_low _ _ 24 (by omega)]
  omega
end Go.Proofs.YtlikinglgegclaaDoor
/- A desc's bytes, read. -/
namespace Go.Proofs.YtlikinglgegclaaDoor
open Go.RowKit Go.Cour
section
variable {id m q : Int} {k r b : List Int}
theorem descB_length (hk : k.length = 32) (hr : r.length = 32) (hb : b.length = 32) : (descB id m q k r b).length = 108 := by simp [descB, le4, hk, hr, hb]
theorem descB_id (hid : 0 ≤ id ∧ id < 4294967296) : u32At (descB id m q k r b) 0 = id := word4_le4 id hid
theorem descB_m (hm : 0 ≤ m ∧ m < 4294967296) : u32At (descB id m q k r b) 4 = m := word4_le4 m hm
theorem descB_q (hq : 0 ≤ q ∧ q < 4294967296) : u32At (descB id m q k r b) 8 = q := word4_le4 q hq
theorem descB_k (hk : k.length = 32) : ((descB id m q k r b).drop 12).take 32 = k := by
  have : descB id m q k r b = (le4 id ++ le4 m ++ le4 q) ++ (k ++ (r ++ b)) := by simp [descB]
  rw [this, show 12 = (le4 id ++ le4 m ++ le4 q).length from rfl, List.drop_left, ← hk, List.take_left]
theorem descB_r (hk : k.length = 32) (hr : r.length = 32) : ((descB id m q k r b).drop 44).take 32 = r := by
  have : descB id m q k r b = (le4 id ++ le4 m ++ le4 q ++ k) ++ (r ++ b) := by simp [descB]
  rw [this, show 44 = (le4 id ++ le4 m ++ le4 q ++ k).length by simp [le4, hk], List.drop_left, ← hr, List.take_left]
theorem descB_b (hk : k.length = 32) (hr : r.length = 32) (hb : b.length = 32) : ((descB id m q k r b).drop 76).take 32 = b := by
  have : descB id m q k r b = (le4 id ++ le4 m ++ le4 q ++ k ++ r) ++ b := by simp [descB]
  rw [this, show 76 = (le4 id ++ le4 m ++ le4 q ++ k ++ r).length by simp [le4, hk, hr], List.drop_left, ← hb, List.take_length]
theorem bokT_append {xs ys : List Int} (hx : bytesOk xs) (hy : bytesOk ys) : bytesOk (xs ++ ys) := fun i => by
  unfold rd
  rw [List.getD_eq_getElem?_getD, List.getElem?_append]
  split
  · have := hx i; unfold rd at this; rwa [List.getD_eq_getElem?_getD] at this
  · have := hy (i - xs.length); unfold rd at this; rwa [List.getD_eq_getElem?_getD] at this
theorem bokT_mem {xs : List Int} (h : ∀ x ∈ xs, 0 ≤ x ∧ x < 256) : bytesOk xs := fun i => by
  unfold rd
  rw [List.getD_eq_getElem?_getD]
  cases hx : xs[i]? with
  | none => simp
  | some x => exact h x (List.mem_of_getElem? hx)
theorem descB_ok (hid : 0 ≤ id ∧ id < 4294967296) (hm : 0 ≤ m ∧ m < 4294967296) (hq : 0 ≤ q ∧ q < 4294967296) (hk : bytesOk k) (hr : bytesOk r) (hb : bytesOk b) : bytesOk (descB id m q k r b) :=
  bokT_append (bokT_append (bokT_append (bokT_append (bokT_append (bokT_mem (le4_bytes id hid)) (bokT_mem (le4_bytes m hm))) (bokT_mem (le4_bytes q hq))) hk) hr) hb
/-- One that may be is read as it was. -/
theorem readD_good (hid : 0 ≤ id ∧ id < 4294967296) (hm : 0 ≤ m ∧ m ≤ 600) (hq : 1 ≤ q ∧ q ≤ 64) (hk : k.length = 32) (hr : r.length = 32) (hb : b.length = 32) : readD (descB id m q k r b) = (descC id m q k r b, 0, false, 0) := by
  unfold readD
  rw [descB_length hk hr hb, if_neg (by omega), if_neg (by omega), descB_m (by omega), descB_q (by omega), if_neg (by omega)]
  unfold descAt
  rw [descB_id hid, descB_m (by omega), descB_q (by omega), descB_k hk, descB_r hk hr, descB_b hk hr hb]
theorem readD_bad (hm : 0 ≤ m ∧ m < 4294967296) (hq : 0 ≤ q ∧ q < 4294967296) (hbad : 600 < m ∨ q < 1 ∨ 64 < q) (hk : k.length = 32) (hr : r.length = 32) (hb : b.length = 32) : readD (descB id m q k r b) = (zeroD, 102, false, 0) := by
  unfold readD
  rw [descB_length hk hr hb, if_neg (by omega), if_neg (by omega), descB_m hm, descB_q hq, if_pos hbad]
theorem readD_short {xs : List Int} (h : xs.length < 108) : readD xs = (zeroD, 103, true, (shortAt xs.length : Int)) := by
  unfold readD
  rw [if_pos h]
theorem readD_long {xs : List Int} (h : 108 < xs.length) : readD xs = (zeroD, 104, true, 108) := by
  unfold readD
  rw [if_neg (by omega), if_pos h]
end
end Go.Proofs.YtlikinglgegclaaDoor
/- The law DescBack. -/
namespace Go.Proofs.YtlikinglgegclaaDoor
open Go.RowKit Go.Cour
theorem builtSeq (A : Option Addr) (n c : Nat) : Tryd.prog.built 53 [(0, .slice A n c)] = some #[.slice A n c, .int .i64 0] := by kernel_rfl
theorem bin_toK {P : Program} {ops : Array Oper} {rest : List Oper} {o : Oper} {a : Act} {w : World} {Q : Exit → Act → World → Prop} (hw : Region.wanted o (yielded ops a.tmps) = true) (op : BinOp) (t t' : TypeId) (x y : Operand) (ho : o.op = .binOp op t x y t') (xs ys : Array Value)
    (hx : a.eval x = .agg xs) (hy : a.eval y = .agg ys) (hm : P.eqGuardType P.depth t = false) (r : Value) (hr : ∀ w, (binOp op t (.agg xs) (.agg ys)).run P w = .ok r w) (d : Option Tmp) (hd : o.dst = d) (h : wpList P ops Q rest (a.put d r) w) : wpList P ops Q (o :: rest) a w := by
  subst hd
  refine wpList_step fun K hK => ?_
  rw [if_pos hw]
  unfold Oper.wp execOp
  have hg := run_eqGuard_agg (P := P) w op t x y xs ys hm
  simp only [ho, hx, hy]
  simp [hg, hr]
  exact hK _ _ h
theorem guardDesc : Tryd.prog.eqGuardType Tryd.prog.depth 32 = false := by kernel_rfl
theorem tells_nil {w : World} {P : Nat → Addr} {v : Value} {p : Bool} {n : Int} (h : Tells w P v 0 p n) : v = .nilIface := by
  rcases h with ⟨h, _⟩ | ⟨k, _, _, h, _⟩ | ⟨k, g, _, _, _, h, _⟩
  · exact h
  · omega
  · omega
/-- s[:h]. -/
theorem slice_anyK {P : Program} {w : World} {ops : Array Oper} {rest : List Oper} {o : Oper} {a : Act} {Q : Exit → Act → World → Prop} (hw : Region.wanted o (yielded ops a.tmps) = true) (x z : Operand) (t : TypeId) (ho : o.op = .slice t x none (some z) none) (e : TypeId)
    (hu : P.underlying t = some (.slice e)) (hsz : (P.info? e).map (·.size) = some 1) (A : Option Addr) (m c h : Nat) (hx : a.eval x = .slice A m c) (hz : a.eval z = .int .i64 (h : Int)) (hhc : h ≤ c) (d : Option Tmp) (hd : o.dst = d)
    (hk : wpList P ops Q rest (a.put d (.slice A h c)) w) : wpList P ops Q (o :: rest) a w := by
  subst hd
  obtain ⟨i, hi, hs⟩ : ∃ i, P.info? e = some i ∧ i.size = 1 := by
    cases hie : P.info? e with
    | none => simp [hie] at hsz
    | some i => exact ⟨i, rfl, by simpa [hie] using hsz⟩
  refine wpList_step fun K hK => ?_
  rw [if_pos hw]
  have hs2 : (sizeOf e).run P w = .ok 1 w := by simp [sizeOf, typeInfo, hi, hs]
  have hrun : (Instr.slice t (.slice A m c) none (some (.int .i64 (h : Int))) none).run P w = .ok (.slice A h c) w := by
    simp [Instr.slice, run_underlying hu, Instr.sliceBounds, run_sliceBound, hs2, hhc]
    cases A with
    | none => simp
    | some b => simp [Addr.add]
  have hrun2 : (Instr.sliceAt t (.slice A m c) none (some (.int .i64 (h : Int))) none).run P w = .ok (.slice A h c) w := by
    rw [← hrun]; simp [Instr.sliceAt, run_underlying hu]
  unfold Oper.wp execOp
  simp only [ho, hx, hz, Option.map_some, Option.map_none]
  simp [hrun2]
  exact hK _ _ hk
theorem and1K (x : Int) (h : 0 ≤ x ∧ x < 4294967296) : bits .and .u32 x 1 = x % 2 := by
  have := bits_mask .u32 32 (by decide) (fun n h0 h1 => by rw [IntKind.wrap_u32]; omega) 1 (by decide) x h.1 (by simpa using h.2)
  simpa using this
theorem infoFK : (Tryd.prog.info? 59).map (·.size) = some 3 := by kernel_rfl
set_option maxHeartbeats 16000000 in
set_option maxRecDepth 100000 in
theorem descBack_calls (ls : List Int) (A : Option Addr) (n c : Nat) (cut size chunk : Int) {w : World} {P : Nat → Addr} (hE : Errs w P) (hl : ls.length = n) (hr : Rd w A .i64 ls) (hs : 0 ≤ size ∧ size < 4294967296) (hc : 0 ≤ chunk ∧ chunk < 4294967296) :
    Calls Tryd.prog 4 #[.slice A n c, .int .i64 cut, .int .u32 size, .int .u32 chunk] w fun e w' => e = .returned (.bool true) ∧ Below w.heap.size w w' := by
  have hS := HS.start NoF w
  have HE := hid hE
  have HL := hid hl
  have HR := hid hr
  have hnn := nil_neqD
  clear hE hl hr
  by_cases h20 : 20 < n
  · go_enter Tryd.func4, Tryd.ntmps4
    go_wp2_with (first
      | (go_at_call 6; refine (first19_calls HE.out).mono ?_; rintro e w1 ⟨rfl, hB⟩; replace hS := hS.below hB; clear hB)
      | fail)
    go_ret
    exact ⟨rfl, hS.bel⟩
  go_enter Tryd.func4, Tryd.ntmps4
  go_wp2_with (first
    | (go_at_call 6; refine (first19_calls HE.out).mono ?_; rintro e w1 ⟨rfl, hB⟩; replace hS := hS.below hB; clear hB)
    | (refine build_to rfl 53 _ rfl #[.slice A n c, .int .i64 0] (by rw [Array.toList_map]; exact builtSeq _ _ _) ?_)
    | (refine box_blk rfl 53 _ rfl _ rfl (seqC (.slice A n c) (0 : Nat)) rfl ?_; intro gs w2 hga hba hBa hsa; replace hS : HS NoF w w2 [.blk gs 53 (seqC (.slice A n c) (0 : Nat))] := hS.pushBlk hBa hba hga; clear hga hba hBa hsa)
    | fail)
  have hgs : ∀ ad, A = some ad → ls ≠ [] → ad.block ≠ gs := fun ad ha hne he => by
    obtain ⟨g, o, h⟩ := HR.out.at (List.length_pos_iff.2 hne)
    rw [ha] at h
    injection h with h
    have h1 := HR.out
    rw [ha, h] at h1
    have h2 := lt_of_cell (h1.cellAt 0 (List.length_pos_iff.2 hne))
    have h3 := hS.own _ (List.mem_cons_self ..) gs rfl
    subst h
    simp at he
    rcases h3 with h3 | h3
    · exact h3
    · omega
  refine (mdesc_calls gs n c A ls _ (hS.blk 0 rfl) HL.out (hS.oldRd HR.out (fun _ _ _ h => h)) hgs).mono ?_
  rintro e w3 ⟨id, m, q, K, RT, SH, rfl, hid1, hm1, hq1, hq2, ⟨hK, rK⟩, ⟨hRT, rRT⟩, ⟨hSH, rSH⟩, hq⟩
  replace hS : HS NoF w w3 [] := HS.call (A := [.blk gs 53 (seqC (.slice A n c) (0 : Nat))]) hS hq (fun k h => ⟨_, List.mem_singleton.2 rfl, h⟩)
  clear hq hgs HR HL h20
  have HDL := hid (descC_length (id := (id : Int)) (m := (m : Int)) (q := (q : Int)) hK hRT hSH)
  have HD1 := hid (descC_one (id : Int) (m : Int) (q : Int) K RT SH)
  have HBY := hid fun w => dbytes_calls (id : Int) (m : Int) (q : Int) K RT SH w (by omega) (by omega) (by omega) hK hRT hSH
  have HBL := hid (descB_length (id := (id : Int)) (m := (m : Int)) (q := (q : Int)) hK hRT hSH)
  have HBO := hid (descB_ok (id := (id : Int)) (m := (m : Int)) (q := (q : Int)) (by omega) (by omega) (by omega) rK rRT rSH)
  have HRG := hid (readD_good (id := (id : Int)) (m := (m : Int)) (q := (q : Int)) (by omega) (by omega) (by omega) hK hRT hSH)
  obtain ⟨sz, hsz⟩ : ∃ sz : Int, Hd (601 + size % 1000 = sz) := ⟨_, Go.Cour.hid rfl⟩
  have hszb : 601 ≤ sz ∧ sz < 2000 := by have := hsz.out; omega
  have HBY2 := Go.Cour.hid fun w => dbytes_calls (id : Int) sz (q : Int) K RT SH w (by omega) (by omega) (by omega) hK hRT hSH
  have HBL2 := Go.Cour.hid (descB_length (id := (id : Int)) (m := sz) (q := (q : Int)) hK hRT hSH)
  have HBO2 := Go.Cour.hid (descB_ok (id := (id : Int)) (m := sz) (q := (q : Int)) (by omega) (by omega) (by omega) rK rRT rSH)
  have HRB2 := Go.Cour.hid (readD_bad (id := (id : Int)) (m := sz) (q := (q : Int)) (by omega) (by omega) (by omega) hK hRT hSH)
  obtain ⟨ch, hch⟩ : ∃ ch : Int, Hd ((if chunk % 2 = 1 then 64 + chunk % 1000 else 0) = ch) := ⟨_, Go.Cour.hid rfl⟩
  have hchb : 0 ≤ ch ∧ ch < 2000 ∧ (ch < 1 ∨ 64 < ch) := by have := hch.out; split at this <;> omega
  have HBY3 := Go.Cour.hid fun w => dbytes_calls (id : Int) (m : Int) ch K RT SH w (by omega) (by omega) (by omega) hK hRT hSH
  have HBL3 := Go.Cour.hid (descB_length (id := (id : Int)) (m := (m : Int)) (q := ch) hK hRT hSH)
  have HBO3 := Go.Cour.hid (descB_ok (id := (id : Int)) (m := (m : Int)) (q := ch) (by omega) (by omega) (by omega) rK rRT rSH)
  have HRB3 := Go.Cour.hid (readD_bad (id := (id : Int)) (m := (m : Int)) (q := ch) (by omega) (by omega) (by omega) hK hRT hSH)
  have HNE := Go.Cour.hid (desc_neq (id : Int) (m : Int) (q : Int) K RT SH hK hRT hSH)
  have HS1 : Hd ((descC (id : Int) (m : Int) (q : Int) K RT SH).set 1 (.int .u32 sz) = descC (id : Int) sz (q : Int) K RT SH) := Go.Cour.hid rfl
  have HSQ : Hd ((descC (id : Int) (m : Int) (q : Int) K RT SH).set 2 (.int .u32 0) = descC (id : Int) (m : Int) 0 K RT SH) := Go.Cour.hid rfl
  have HS2 : Hd (∀ x y : Int, (descC (id : Int) (m : Int) y K RT SH).set 2 (.int .u32 x) = descC (id : Int) (m : Int) x K RT SH) := Go.Cour.hid (fun _ _ => rfl)
  have HDL2 := Go.Cour.hid (descC_length (id := (id : Int)) (m := sz) (q := (q : Int)) hK hRT hSH)
  have HDL3 : Hd (∀ x : Int, (descC (id : Int) (m : Int) x K RT SH).length = 99) := Go.Cour.hid (fun x => descC_length hK hRT hSH)
  obtain ⟨D, hD⟩ : ∃ D, descC (id : Int) (m : Int) (q : Int) K RT SH = D := ⟨_, rfl⟩
  obtain ⟨D2, hD2⟩ : ∃ D, descC (id : Int) sz (q : Int) K RT SH = D := ⟨_, rfl⟩
  obtain ⟨D3, hD3⟩ : ∃ D : Int → List Value, (fun x => descC (id : Int) (m : Int) x K RT SH) = D := ⟨_, rfl⟩
  obtain ⟨bs, hbs⟩ : ∃ b, descB (id : Int) (m : Int) (q : Int) K RT SH = b := ⟨_, rfl⟩
  obtain ⟨bs2, hbs2⟩ : ∃ b, descB (id : Int) sz (q : Int) K RT SH = b := ⟨_, rfl⟩
  obtain ⟨bs3, hbs3⟩ : ∃ b, descB (id : Int) (m : Int) ch K RT SH = b := ⟨_, rfl⟩
  have hD3' : ∀ x, descC (id : Int) (m : Int) x K RT SH = D3 x := fun x => congrFun hD3 x
  simp only [hbs] at HBY
  rw [hD] at HDL HD1 HRG HNE HS1 HSQ ⊢
  simp only [hD] at HBY
  rw [hD2] at HS1 HDL2
  simp only [hD2, hbs2] at HBY2
  simp only [hD3', hbs3] at HS2 HDL3 HBY3
  rw [hD3'] at HSQ
  rw [hbs3] at HBL3 HBO3 HRB3
  rw [hbs2] at HBL2 HBO2 HRB2
  rw [hbs] at HBL HBO HRG
  clear hD hD2 hD3 hD3' hbs hbs2 hbs3 hK rK hRT rRT hSH rSH
  have HZD := Go.Cour.hid zeroDesc
  have HZL := Go.Cour.hid zeroD_length
  have HZO : Hd (∀ v ∈ zeroD, v.oneCell' = true) := Go.Cour.hid (descC_one 0 0 0 (List.replicate 32 0) (List.replicate 32 0) (List.replicate 32 0))
  have HLG : Hd (readD (bs ++ [0]) = (zeroD, 104, true, 108)) := Go.Cour.hid (readD_long (by rw [List.length_append, HBL.out]; decide))
  have HSH : Hd (∀ k, k < 108 → readD (bs.take k) = (zeroD, 103, true, (shortAt k : Int))) := Go.Cour.hid (fun k hk => by
    have h : (bs.take k).length = k := by rw [List.length_take, HBL.out]; omega
    rw [readD_short (by omega), h])
  have HBA := Go.Cour.hid (bokT_append HBO.out (bokT_mem (xs := [0]) (by simp)))
  have HBT : Hd (∀ k, bytesOk (bs.take k)) := Go.Cour.hid (fun k => bytesOk_take HBO.out k)
  obtain ⟨D0, hD0⟩ : ∃ D0, zeroD = D0 := ⟨_, rfl⟩
  rw [hD0] at HZD HZL HZO HRB2 HRB3 HLG
  simp only [hD0] at HSH
  clear hD0
  have hA8 : ∀ {k : Nat} {A' : Option Addr} {xs : List Int} {c' : Nat}, xs.length = k → True := fun _ => trivial
  clear hA8
  go_wp2_with (first
      | (refine alloc_blk rfl 32 rfl _ rfl D0 HZD.out ?_; intro gd w_gd hga hba hBa hsa; replace hS : HS NoF w w_gd [.blk gd 32 D0] := hS.pushBlk hBa hba hga; clear hga hba hBa hsa)
      | (refine hs_storeW hS 0 rfl rfl 32 _ _ rfl rfl D rfl HD1.out 99 sizeDesc HDL.out HZL.out _ rfl ?_; clear hS; intro w_A1 hS; replace hS : HS NoF w w_A1 [.blk gd 32 D] := hS)
      | (refine hs_loadW hS 0 rfl rfl 32 _ rfl rfl 99 sizeDesc HDL.out _ undDesc.choose_spec rfl _ rfl ?_)
      | (go_at_call 21; refine (HBY.out _).mono ?_; rintro e w_5 ⟨v5, rfl, ho, hB⟩; obtain ⟨A5, c5, h5, hc5, _, _⟩ := ho.slice; rw [HBL.out] at h5 hc5; subst h5; replace hS : HS NoF w w_5 [.os 5 (.slice A5 108 c5) (ints .u8 bs), .blk gd 32 D] := hS.pushOwn hB ho; clear ho hB)
      | fail)
  refine (dread_calls bs A5 108 c5 (HE.out.below hS.bel) HBL.out HBO.out (hS.os 0 rfl).len.2.2.2 ((hS.os 0 rfl).rd rfl) (by omega)).mono ?_
  rintro e w_B0 ⟨er, rfl, hq⟩
  rw [HRG.out] at hq ⊢
  have her := tells_nil (HS_tells hq 0 rfl)
  subst her
  replace hS : HS NoF w w_B0 [.os 5 (.slice A5 108 c5) (ints .u8 bs), .blk gd 32 D] := hS.below hq.bel
  clear hq
  dsimp only
  go_wp2_with (first
      | (refine alloc_blk rfl 32 rfl _ rfl D0 HZD.out ?_; intro gx w_gx hga hba hBa hsa; replace hS : HS NoF w w_gx [.blk gx 32 D0, .os 5 (.slice A5 108 c5) (ints .u8 bs), .blk gd 32 D] := hS.pushBlk hBa hba hga; clear hga hba hBa hsa)
      | (refine hs_storeW hS 0 rfl rfl 32 _ _ rfl rfl D rfl HD1.out 99 sizeDesc HDL.out HZL.out _ rfl ?_; clear hS; intro w_B1 hS; replace hS : HS NoF w w_B1 [.blk gx 32 D, .os 5 (.slice A5 108 c5) (ints .u8 bs), .blk gd 32 D] := hS)
      | (refine hs_loadW hS 0 rfl rfl 32 _ rfl rfl 99 sizeDesc HDL.out _ undDesc.choose_spec rfl _ rfl ?_)
      | (refine hs_loadW hS 2 rfl rfl 32 _ rfl rfl 99 sizeDesc HDL.out _ undDesc.choose_spec rfl _ rfl ?_)
      | (refine bin_toK rfl _ _ _ _ _ rfl D.toArray D.toArray rfl rfl guardDesc (.bool false) HNE.out _ rfl ?_)
      | (go_at_call 23; refine (bytes_calls bs A5 c5 108 _ HBL.out.symm ((hS.os 1 rfl).rd rfl) (by omega)).mono ?_; rintro e w_7 ⟨v7, rfl, ho, hB⟩; obtain ⟨A7, c7, h7, hc7, _, _⟩ := ho.slice; rw [HBL.out] at h7 hc7; subst h7; replace hS : HS NoF w w_7 [.os 5 (.slice A7 108 c7) (ints .u8 bs), .os 5 (.slice A5 108 c5) (ints .u8 bs), .blk gd 32 D] := (hS.erase 0).pushOwn hB ho; clear ho hB)
      | (refine hs_one hS rfl 24 5 _ rfl undBytesS sizeU8W zeroU8S (.int .u8 0) rfl rfl _ rfl ?_; clear hS; intro gl w_8 hgl hBl hS; clear hgl hBl; replace hS : HS NoF w w_8 [.os 5 (.slice (some ⟨gl, 0, none⟩) 1 1) (ints .u8 [0]), .os 5 (.slice A7 108 c7) (ints .u8 bs), .os 5 (.slice A5 108 c5) (ints .u8 bs), .blk gd 32 D] := hS)
      | (refine hs_append hS 1 rfl rfl _ _ 24 rfl 1 undBytesS infoU8S zeroU8S rfl (some ⟨gl, 0, none⟩) 1 1 rfl (ints .u8 [0]) rfl (news_of_rd ((hS.os 0 rfl).rd rfl)) (ints_one' _ _) (by rw [ints_length, HBL.out]; decide) (by rw [ints_length, HBL.out]; decide) _ rfl ?_; clear hS; intro A9 n9 c9 w_9 hn9 hc9 hA9 hS; rw [← ints_append] at hS; have hn9' : n9 = 109 := (by rw [← hn9, List.length_append, ints_length, HBL.out]; rfl); subst hn9'; clear hn9; replace hS : HS NoF w w_9 [.os 5 (.slice A9 109 c9) (ints .u8 (bs ++ [0])), .os 5 (.slice A5 108 c5) (ints .u8 bs), .blk gd 32 D] := hS.erase 0)
      | fail)
  refine (dread_calls (bs ++ [0]) A9 109 c9 (HE.out.below hS.bel) (by rw [List.length_append, HBL.out]; rfl) HBA.out (hS.os 0 rfl).len.2.2.2 ((hS.os 0 rfl).rd rfl) (by omega)).mono ?_
  rintro e w_C0 ⟨fE, rfl, hq⟩
  rw [HLG.out] at hq ⊢
  dsimp only at hq ⊢
  replace hS : HS NoF w w_C0 [tellsE P fE 104 true 108, .os 5 (.slice A5 108 c5) (ints .u8 bs), .blk gd 32 D] := HS.call (A := []) (hS.erase 0) hq (fun _ h => h.elim)
  clear hq
  go_wp2_with (first
      | (refine alloc_blk rfl 32 rfl _ rfl D0 HZD.out ?_; intro gy w_gy hga hba hBa hsa; replace hS : HS NoF w w_gy [.blk gy 32 D0, tellsE P fE 104 true 108, .os 5 (.slice A5 108 c5) (ints .u8 bs), .blk gd 32 D] := hS.pushBlk hBa hba hga; clear hga hba hBa hsa)
      | (refine hs_storeW hS 0 rfl rfl 32 _ _ rfl rfl D0 rfl HZO.out 99 sizeDesc HZL.out HZL.out _ rfl ?_; clear hS; intro w_C1 hS; replace hS : HS NoF w w_C1 [tellsE P fE 104 true 108, .os 5 (.slice A5 108 c5) (ints .u8 bs), .blk gd 32 D] := hS.erase 0)
      | fail)
  refine (numQ_calls cut 108 _ (by omega) (by omega)).mono ?_
  rintro e w_C2 ⟨k, hk, rfl, hw⟩
  subst hw
  replace hk : k < 108 := by omega
  have hk8 : (k : Int) ≤ c5 := by omega
  go_wp2_with (first
      | (refine slice_anyK rfl _ _ _ rfl 5 undBytesS sizeU8W A5 108 c5 k rfl rfl (by omega) _ rfl ?_)
      | fail)
  refine (dread_calls (bs.take k) A5 k c5 (HE.out.below hS.bel) (by rw [List.length_take, HBL.out]; omega) (HBT.out k) (hS.os 1 rfl).len.2.2.2 (((hS.os 1 rfl).rd rfl).take k) (by omega)).mono ?_
  rintro e w_D0 ⟨hE2, rfl, hq⟩
  rw [HSH.out k hk] at hq ⊢
  dsimp only at hq ⊢
  replace hS : HS NoF w w_D0 [tellsE P hE2 103 true (shortAt k : Int), tellsE P fE 104 true 108, .os 5 (.slice A5 108 c5) (ints .u8 bs), .blk gd 32 D] := HS.call (A := []) hS hq (fun _ h => h.elim)
  clear hq
  go_wp2_with (first
      | (refine alloc_blk rfl 32 rfl _ rfl D0 HZD.out ?_; intro gy w_gy hga hba hBa hsa; replace hS : HS NoF w w_gy [.blk gy 32 D0, tellsE P hE2 103 true (shortAt k : Int), tellsE P fE 104 true 108, .os 5 (.slice A5 108 c5) (ints .u8 bs), .blk gd 32 D] := hS.pushBlk hBa hba hga; clear hga hba hBa hsa)
      | (refine hs_storeW hS 0 rfl rfl 32 _ _ rfl rfl D0 rfl HZO.out 99 sizeDesc HZL.out HZL.out _ rfl ?_; clear hS; intro w_D1 hS; replace hS : HS NoF w w_D1 [tellsE P hE2 103 true (shortAt k : Int), tellsE P fE 104 true 108, .os 5 (.slice A5 108 c5) (ints .u8 bs), .blk gd 32 D] := hS.erase 0)
      | (go_at_call 24; refine (fault_tells (HE.out.below hS.bel) (HS_tells hS 0 rfl)).mono ?_; rintro e w_D2 ⟨rfl, hB⟩; replace hS : HS NoF w w_D2 [tellsE P fE 104 true 108, .os 5 (.slice A5 108 c5) (ints .u8 bs), .blk gd 32 D] := (hS.erase 0).below hB; clear hB)
      | (refine alloc_blk rfl 59 rfl _ rfl (faultC 0 false 0) zeroF ?_; intro gf w_gf hga hba hBa hsa; replace hS : HS NoF w w_gf [.blk gf 59 (faultC 0 false 0), tellsE P fE 104 true 108, .os 5 (.slice A5 108 c5) (ints .u8 bs), .blk gd 32 D] := hS.pushBlk hBa hba hga; clear hga hba hBa hsa)
      | (refine hs_storeW hS 0 rfl rfl 59 _ _ rfl rfl (faultC 103 true (shortAt k : Int)) rfl (by simp [faultC, Value.oneCell']) 3 infoFK rfl rfl _ rfl ?_; clear hS; intro w_D3 hS; replace hS : HS NoF w w_D3 [.blk gf 59 (faultC 103 true (shortAt k : Int)), tellsE P fE 104 true 108, .os 5 (.slice A5 108 c5) (ints .u8 bs), .blk gd 32 D] := hS)
      | (refine hs_loadW hS 3 rfl rfl 32 _ rfl rfl 99 sizeDesc HDL.out _ undDesc.choose_spec rfl _ rfl ?_)
      | (refine alloc_blk rfl 32 rfl _ rfl D0 HZD.out ?_; intro gb w_gb hga hba hBa hsa; replace hS : HS NoF w w_gb [.blk gb 32 D0, .blk gf 59 (faultC 103 true (shortAt k : Int)), tellsE P fE 104 true 108, .os 5 (.slice A5 108 c5) (ints .u8 bs), .blk gd 32 D] := hS.pushBlk hBa hba hga; clear hga hba hBa hsa)
      | (refine hs_storeW hS 0 rfl rfl 32 _ _ rfl rfl D rfl HD1.out 99 sizeDesc HDL.out HZL.out _ rfl ?_; clear hS; intro w_D4 hS; replace hS : HS NoF w w_D4 [.blk gb 32 D, .blk gf 59 (faultC 103 true (shortAt k : Int)), tellsE P fE 104 true 108, .os 5 (.slice A5 108 c5) (ints .u8 bs), .blk gd 32 D] := hS)
      | (refine hs_store1 hS 0 rfl rfl 29 _ _ rfl 1 rfl (.int .u32 (601 + size % 1000)) rfl rfl sizeU32D (by rw [HDL.out]; decide) _ rfl ?_; clear hS; intro w_D5 hS; rw [hsz.out, HS1.out] at hS; replace hS : HS NoF w w_D5 [.blk gb 32 D2, .blk gf 59 (faultC 103 true (shortAt k : Int)), tellsE P fE 104 true 108, .os 5 (.slice A5 108 c5) (ints .u8 bs), .blk gd 32 D] := hS)
      | (refine hs_loadW hS 0 rfl rfl 32 _ rfl rfl 99 sizeDesc HDL2.out _ undDesc.choose_spec rfl _ rfl ?_)
      | (go_at_call 21; refine (HBY2.out _).mono ?_; rintro e w_6 ⟨v6, rfl, ho, hB⟩; obtain ⟨A6, c6, h6, hc6, _, _⟩ := ho.slice; rw [HBL2.out] at h6 hc6; subst h6; replace hS : HS NoF w w_6 [.os 5 (.slice A6 108 c6) (ints .u8 bs2), .blk gb 32 D2, .blk gf 59 (faultC 103 true (shortAt k : Int)), tellsE P fE 104 true 108, .os 5 (.slice A5 108 c5) (ints .u8 bs), .blk gd 32 D] := hS.pushOwn hB ho; clear ho hB)
      | fail)
  refine (dread_calls bs2 A6 108 c6 (HE.out.below hS.bel) HBL2.out HBO2.out (hS.os 0 rfl).len.2.2.2 ((hS.os 0 rfl).rd rfl) (by omega)).mono ?_
  rintro e w_E0 ⟨iE, rfl, hq⟩
  rw [HRB2.out] at hq ⊢
  dsimp only at hq ⊢
  replace hS : HS NoF w w_E0 [tellsE P iE 102 false 0, .blk gb 32 D2, .blk gf 59 (faultC 103 true (shortAt k : Int)), tellsE P fE 104 true 108, .os 5 (.slice A5 108 c5) (ints .u8 bs), .blk gd 32 D] := HS.call (A := []) (hS.erase 0) hq (fun _ h => h.elim)
  clear hq
  by_cases hodd : chunk % 2 = 1
  · have hch2 : Hd (64 + chunk % 1000 = ch) := Go.Cour.hid (by have := hch.out; rwa [if_pos hodd] at this)
    have hand : bits .and .u32 chunk 1 = 1 := by rw [and1K chunk hc]; omega
    go_wp2_with (first
        | (refine alloc_blk rfl 32 rfl _ rfl D0 HZD.out ?_; intro gz w_gz hga hba hBa hsa; replace hS : HS NoF w w_gz [.blk gz 32 D0, tellsE P iE 102 false 0, .blk gb 32 D2, .blk gf 59 (faultC 103 true (shortAt k : Int)), tellsE P fE 104 true 108, .os 5 (.slice A5 108 c5) (ints .u8 bs), .blk gd 32 D] := hS.pushBlk hBa hba hga; clear hga hba hBa hsa)
        | (refine hs_storeW hS 0 rfl rfl 32 _ _ rfl rfl D0 rfl HZO.out 99 sizeDesc HZL.out HZL.out _ rfl ?_; clear hS; intro w_E1 hS; replace hS : HS NoF w w_E1 [tellsE P iE 102 false 0, .blk gb 32 D2, .blk gf 59 (faultC 103 true (shortAt k : Int)), tellsE P fE 104 true 108, .os 5 (.slice A5 108 c5) (ints .u8 bs), .blk gd 32 D] := hS.erase 0)
        | (refine hs_loadW hS 5 rfl rfl 32 _ rfl rfl 99 sizeDesc HDL.out _ undDesc.choose_spec rfl _ rfl ?_)
        | (refine hs_storeW hS 1 rfl rfl 32 _ _ rfl rfl D rfl HD1.out 99 sizeDesc HDL.out HDL2.out _ rfl ?_; clear hS; intro w_E2 hS; replace hS : HS NoF w w_E2 [tellsE P iE 102 false 0, .blk gb 32 D, .blk gf 59 (faultC 103 true (shortAt k : Int)), tellsE P fE 104 true 108, .os 5 (.slice A5 108 c5) (ints .u8 bs), .blk gd 32 D] := hS)
        | (refine hs_store1 hS 1 rfl rfl 29 _ _ rfl 2 rfl (.int .u32 0) rfl rfl sizeU32D (by rw [HDL.out]; decide) _ rfl ?_; clear hS; intro w_E3 hS; simp only [List.set_cons_succ, List.set_cons_zero, HSQ.out] at hS; replace hS : HS NoF w w_E3 [tellsE P iE 102 false 0, .blk gb 32 (D3 0), .blk gf 59 (faultC 103 true (shortAt k : Int)), tellsE P fE 104 true 108, .os 5 (.slice A5 108 c5) (ints .u8 bs), .blk gd 32 D] := hS)
        | (refine hs_store1 hS 1 rfl rfl 29 _ _ rfl 2 rfl (.int .u32 (64 + chunk % 1000)) rfl rfl sizeU32D (by rw [HDL3.out]; decide) _ rfl ?_; clear hS; intro w_E4 hS; simp only [List.set_cons_succ, List.set_cons_zero, HS2.out, hch2.out] at hS; replace hS : HS NoF w w_E4 [tellsE P iE 102 false 0, .blk gb 32 (D3 ch), .blk gf 59 (faultC 103 true (shortAt k : Int)), tellsE P fE 104 true 108, .os 5 (.slice A5 108 c5) (ints .u8 bs), .blk gd 32 D] := hS)
        | (refine hs_loadW hS 1 rfl rfl 32 _ rfl rfl 99 sizeDesc (HDL3.out _) _ undDesc.choose_spec rfl _ rfl ?_)
        | (go_at_call 21; refine (HBY3.out _).mono ?_; rintro e w_8 ⟨v8, rfl, ho, hB⟩; obtain ⟨A8, c8, h8, hc8, _, _⟩ := ho.slice; rw [HBL3.out] at h8 hc8; subst h8; replace hS : HS NoF w w_8 [.os 5 (.slice A8 108 c8) (ints .u8 bs3), tellsE P iE 102 false 0, .blk gb 32 (D3 ch), .blk gf 59 (faultC 103 true (shortAt k : Int)), tellsE P fE 104 true 108, .os 5 (.slice A5 108 c5) (ints .u8 bs), .blk gd 32 D] := hS.pushOwn hB ho; clear ho hB)
        | fail)
    refine (dread_calls bs3 A8 108 c8 (HE.out.below hS.bel) HBL3.out HBO3.out (hS.os 0 rfl).len.2.2.2 ((hS.os 0 rfl).rd rfl) (by omega)).mono ?_
    rintro e w_F0 ⟨jE, rfl, hq⟩
    rw [HRB3.out] at hq ⊢
    dsimp only at hq ⊢
    replace hS : HS NoF w w_F0 [tellsE P jE 102 false 0, tellsE P iE 102 false 0, .blk gb 32 (D3 ch), .blk gf 59 (faultC 103 true (shortAt k : Int)), tellsE P fE 104 true 108, .os 5 (.slice A5 108 c5) (ints .u8 bs), .blk gd 32 D] := HS.call (A := []) (hS.erase 0) hq (fun _ h => h.elim)
    clear hq
    go_wp2_with (first
        | (refine alloc_blk rfl 32 rfl _ rfl D0 HZD.out ?_; intro gq w_gq hga hba hBa hsa; replace hS : HS NoF w w_gq [.blk gq 32 D0, tellsE P jE 102 false 0, tellsE P iE 102 false 0, .blk gb 32 (D3 ch), .blk gf 59 (faultC 103 true (shortAt k : Int)), tellsE P fE 104 true 108, .os 5 (.slice A5 108 c5) (ints .u8 bs), .blk gd 32 D] := hS.pushBlk hBa hba hga; clear hga hba hBa hsa)
        | (refine hs_storeW hS 0 rfl rfl 32 _ _ rfl rfl D0 rfl HZO.out 99 sizeDesc HZL.out HZL.out _ rfl ?_; clear hS; intro w_F1 hS; replace hS : HS NoF w w_F1 [tellsE P jE 102 false 0, tellsE P iE 102 false 0, .blk gb 32 (D3 ch), .blk gf 59 (faultC 103 true (shortAt k : Int)), tellsE P fE 104 true 108, .os 5 (.slice A5 108 c5) (ints .u8 bs), .blk gd 32 D] := hS.erase 0)
        | (go_at_call 26; refine (placed_calls 104 108 (by decide) _).mono ?_; rintro e w_F2 ⟨rfl, hB⟩; replace hS : HS NoF w w_F2 [tellsE P jE 102 false 0, tellsE P iE 102 false 0, .blk gb 32 (D3 ch), .blk gf 59 (faultC 103 true (shortAt k : Int)), tellsE P fE 104 true 108, .os 5 (.slice A5 108 c5) (ints .u8 bs), .blk gd 32 D] := hS.below hB; clear hB)
        | (go_at_call 25; refine (sameT_calls (HE.out.below hS.bel) (HS_tells hS 4 rfl) 104 108 true).mono ?_; rintro e w_F3 ⟨rfl, hB⟩; replace hS : HS NoF w w_F3 [tellsE P jE 102 false 0, tellsE P iE 102 false 0, .blk gb 32 (D3 ch), .blk gf 59 (faultC 103 true (shortAt k : Int)), tellsE P fE 104 true 108, .os 5 (.slice A5 108 c5) (ints .u8 bs), .blk gd 32 D] := hS.below hB; clear hB; have cf : w_F3.cell? ⟨gf, 0, none⟩ = some (.int .i64 103) := hS.cell 3 rfl 0)
        | (go_at_call 19; have _ := mkI; refine (isT_calls (HE.out.below hS.bel) (HS_tells hS 0 rfl) 102).mono ?_; rintro e w_F5 ⟨rfl, hB⟩; replace hS : HS NoF w w_F5 [tellsE P jE 102 false 0, tellsE P iE 102 false 0, .blk gb 32 (D3 ch), .blk gf 59 (faultC 103 true (shortAt k : Int)), tellsE P fE 104 true 108, .os 5 (.slice A5 108 c5) (ints .u8 bs), .blk gd 32 D] := hS.below hB; clear hB)
        | (go_at_call 19; refine (isT_calls (HE.out.below hS.bel) (HS_tells hS 1 rfl) 102).mono ?_; rintro e w_F4 ⟨rfl, hB⟩; have mkI : True := trivial; replace hS : HS NoF w w_F4 [tellsE P jE 102 false 0, tellsE P iE 102 false 0, .blk gb 32 (D3 ch), .blk gf 59 (faultC 103 true (shortAt k : Int)), tellsE P fE 104 true 108, .os 5 (.slice A5 108 c5) (ints .u8 bs), .blk gd 32 D] := hS.below hB; clear hB)
        | fail)
    go_ret
    exact ⟨rfl, hS.bel⟩
  · have hch2 : Hd ((0 : Int) = ch) := Go.Cour.hid (by have := hch.out; rwa [if_neg hodd] at this)
    have hand : bits .and .u32 chunk 1 = 0 := by rw [and1K chunk hc]; omega
    obtain rfl : ch = 0 := hch2.out.symm
    go_wp2_with (first
        | (refine alloc_blk rfl 32 rfl _ rfl D0 HZD.out ?_; intro gz w_gz hga hba hBa hsa; replace hS : HS NoF w w_gz [.blk gz 32 D0, tellsE P iE 102 false 0, .blk gb 32 D2, .blk gf 59 (faultC 103 true (shortAt k : Int)), tellsE P fE 104 true 108, .os 5 (.slice A5 108 c5) (ints .u8 bs), .blk gd 32 D] := hS.pushBlk hBa hba hga; clear hga hba hBa hsa)
        | (refine hs_storeW hS 0 rfl rfl 32 _ _ rfl rfl D0 rfl HZO.out 99 sizeDesc HZL.out HZL.out _ rfl ?_; clear hS; intro w_E1 hS; replace hS : HS NoF w w_E1 [tellsE P iE 102 false 0, .blk gb 32 D2, .blk gf 59 (faultC 103 true (shortAt k : Int)), tellsE P fE 104 true 108, .os 5 (.slice A5 108 c5) (ints .u8 bs), .blk gd 32 D] := hS.erase 0)
        | (refine hs_loadW hS 5 rfl rfl 32 _ rfl rfl 99 sizeDesc HDL.out _ undDesc.choose_spec rfl _ rfl ?_)
        | (refine hs_storeW hS 1 rfl rfl 32 _ _ rfl rfl D rfl HD1.out 99 sizeDesc HDL.out HDL2.out _ rfl ?_; clear hS; intro w_E2 hS; replace hS : HS NoF w w_E2 [tellsE P iE 102 false 0, .blk gb 32 D, .blk gf 59 (faultC 103 true (shortAt k : Int)), tellsE P fE 104 true 108, .os 5 (.slice A5 108 c5) (ints .u8 bs), .blk gd 32 D] := hS)
        | (refine hs_store1 hS 1 rfl rfl 29 _ _ rfl 2 rfl (.int .u32 0) rfl rfl sizeU32D (by rw [HDL.out]; decide) _ rfl ?_; clear hS; intro w_E3 hS; simp only [List.set_cons_succ, List.set_cons_zero, HSQ.out] at hS; replace hS : HS NoF w w_E3 [tellsE P iE 102 false 0, .blk gb 32 (D3 0), .blk gf 59 (faultC 103 true (shortAt k : Int)), tellsE P fE 104 true 108, .os 5 (.slice A5 108 c5) (ints .u8 bs), .blk gd 32 D] := hS)
        | (refine hs_loadW hS 1 rfl rfl 32 _ rfl rfl 99 sizeDesc (HDL3.out _) _ undDesc.choose_spec rfl _ rfl ?_)
        | (go_at_call 21; refine (HBY3.out _).mono ?_; rintro e w_8 ⟨v8, rfl, ho, hB⟩; obtain ⟨A8, c8, h8, hc8, _, _⟩ := ho.slice; rw [HBL3.out] at h8 hc8; subst h8; replace hS : HS NoF w w_8 [.os 5 (.slice A8 108 c8) (ints .u8 bs3), tellsE P iE 102 false 0, .blk gb 32 (D3 0), .blk gf 59 (faultC 103 true (shortAt k : Int)), tellsE P fE 104 true 108, .os 5 (.slice A5 108 c5) (ints .u8 bs), .blk gd 32 D] := hS.pushOwn hB ho; clear ho hB)
        | fail)
    refine (dread_calls bs3 A8 108 c8 (HE.out.below hS.bel) HBL3.out HBO3.out (hS.os 0 rfl).len.2.2.2 ((hS.os 0 rfl).rd rfl) (by omega)).mono ?_
    rintro e w_F0 ⟨jE, rfl, hq⟩
    rw [HRB3.out] at hq ⊢
    dsimp only at hq ⊢
    replace hS : HS NoF w w_F0 [tellsE P jE 102 false 0, tellsE P iE 102 false 0, .blk gb 32 (D3 0), .blk gf 59 (faultC 103 true (shortAt k : Int)), tellsE P fE 104 true 108, .os 5 (.slice A5 108 c5) (ints .u8 bs), .blk gd 32 D] := HS.call (A := []) (hS.erase 0) hq (fun _ h => h.elim)
    clear hq
    go_wp2_with (first
        | (refine alloc_blk rfl 32 rfl _ rfl D0 HZD.out ?_; intro gq w_gq hga hba hBa hsa; replace hS : HS NoF w w_gq [.blk gq 32 D0, tellsE P jE 102 false 0, tellsE P iE 102 false 0, .blk gb 32 (D3 0), .blk gf 59 (faultC 103 true (shortAt k : Int)), tellsE P fE 104 true 108, .os 5 (.slice A5 108 c5) (ints .u8 bs), .blk gd 32 D] := hS.pushBlk hBa hba hga; clear hga hba hBa hsa)
        | (refine hs_storeW hS 0 rfl rfl 32 _ _ rfl rfl D0 rfl HZO.out 99 sizeDesc HZL.out HZL.out _ rfl ?_; clear hS; intro w_F1 hS; replace hS : HS NoF w w_F1 [tellsE P jE 102 false 0, tellsE P iE 102 false 0, .blk gb 32 (D3 0), .blk gf 59 (faultC 103 true (shortAt k : Int)), tellsE P fE 104 true 108, .os 5 (.slice A5 108 c5) (ints .u8 bs), .blk gd 32 D] := hS.erase 0)
        | (go_at_call 26; refine (placed_calls 104 108 (by decide) _).mono ?_; rintro e w_F2 ⟨rfl, hB⟩; replace hS : HS NoF w w_F2 [tellsE P jE 102 false 0, tellsE P iE 102 false 0, .blk gb 32 (D3 0), .blk gf 59 (faultC 103 true (shortAt k : Int)), tellsE P fE 104 true 108, .os 5 (.slice A5 108 c5) (ints .u8 bs), .blk gd 32 D] := hS.below hB; clear hB)
        | (go_at_call 25; refine (sameT_calls (HE.out.below hS.bel) (HS_tells hS 4 rfl) 104 108 true).mono ?_; rintro e w_F3 ⟨rfl, hB⟩; replace hS : HS NoF w w_F3 [tellsE P jE 102 false 0, tellsE P iE 102 false 0, .blk gb 32 (D3 0), .blk gf 59 (faultC 103 true (shortAt k : Int)), tellsE P fE 104 true 108, .os 5 (.slice A5 108 c5) (ints .u8 bs), .blk gd 32 D] := hS.below hB; clear hB; have cf : w_F3.cell? ⟨gf, 0, none⟩ = some (.int .i64 103) := hS.cell 3 rfl 0)
        | (go_at_call 19; have _ := mkI; refine (isT_calls (HE.out.below hS.bel) (HS_tells hS 0 rfl) 102).mono ?_; rintro e w_F5 ⟨rfl, hB⟩; replace hS : HS NoF w w_F5 [tellsE P jE 102 false 0, tellsE P iE 102 false 0, .blk gb 32 (D3 0), .blk gf 59 (faultC 103 true (shortAt k : Int)), tellsE P fE 104 true 108, .os 5 (.slice A5 108 c5) (ints .u8 bs), .blk gd 32 D] := hS.below hB; clear hB)
        | (go_at_call 19; refine (isT_calls (HE.out.below hS.bel) (HS_tells hS 1 rfl) 102).mono ?_; rintro e w_F4 ⟨rfl, hB⟩; have mkI : True := trivial; replace hS : HS NoF w w_F4 [tellsE P jE 102 false 0, tellsE P iE 102 false 0, .blk gb 32 (D3 0), .blk gf 59 (faultC 103 true (shortAt k : Int)), tellsE P fE 104 true 108, .os 5 (.slice A5 108 c5) (ints .u8 bs), .blk gd 32 D] := hS.below hB; clear hB)
        | fail)
    go_ret
    exact ⟨rfl, hS.bel⟩
end Go.Proofs.YtlikinglgegclaaDoor
