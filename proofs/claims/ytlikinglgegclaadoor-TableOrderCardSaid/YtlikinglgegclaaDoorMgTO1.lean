import Derived.Test.YtlikinglgegclaaDoorProg
import Derived.Test.YtlikinglgegclaaDoorMgTO0
set_option linter.unusedSimpArgs false
set_option linter.unusedVariables false
open List (getElem_toArray getElem_cons_zero getElem_cons_succ)
/- Bytes, as the program knows them. -/
namespace Go.Proofs.YtlikinglgegclaaDoor
open Go.RowKit Go.Cour
theorem infoU8 : (Tryd.prog.info? 5).map (fun i => (i.zero, i.size, i.bytes)) = some (some (.int .u8 0), 1, 1) := by kernel_rfl
theorem undBytes : Tryd.prog.underlying 24 = some (.slice 5) := by kernel_rfl
end Go.Proofs.YtlikinglgegclaaDoor
/- Clone: a copy. -/
namespace Go.Proofs.YtlikinglgegclaaDoor
open Go.RowKit Go.Cour
set_option maxHeartbeats 2000000 in
set_option maxRecDepth 100000 in
theorem clone_calls (A : Option Addr) (m c : Nat) (xs : List Int) (w : World) (hm : m = xs.length) (hA : A = none → c = 0) (hr : Rd w A .u8 xs) (hl : xs.length ≤ 1000000000) :
    Calls Tryd.prog 72 #[.slice A m c] w fun e w' => ∃ v, e = .returned v ∧ Own w' w.heap.size 5 .u8 v xs ∧ Below w.heap.size w w' := by
  subst hm
  cases A with
  | none =>
    obtain rfl := hA rfl
    have hx : xs = [] := by
      rcases hr with hr | ⟨g, o, he, _⟩
      · exact hr
      · cases he
    subst hx
    have he := fun w => Lib.run_eql_slice_nil (P := Tryd.prog) w 24 5 none 0 0 0 0 undBytes
    go_enter Tryd.func72, Tryd.ntmps72
    go_wp2
    go_ret
    exact ⟨_, rfl, Own.nil _ _ _ _, Below.refl _ _⟩
  | some ad =>
    have HR := hid hr
    clear hr hA
    have he := fun w => Lib.run_eql_slice_nil (P := Tryd.prog) w 24 5 (some ad) xs.length c 0 0 undBytes
    go_enter Tryd.func72, Tryd.ntmps72
    have ho : Own (w.alloc (.cells (ints .u8 []).toArray 5)) w.heap.size 5 .u8 (.slice (some ⟨w.heap.size, 0, none⟩) ([] : List Int).length ([] : List Int).length) [] := Own.ofBlk (Blk.new w 5 (ints .u8 [])) (Nat.le_refl _) (by simp)
    go_wp2_with (at_builtin; refine append_list rfl (.tmp 5) (.tmp 6) 24 rfl w.heap.size 5 .u8 1 undBytes infoU8 _ [] rfl ho (some ad) xs.length c xs rfl rfl (by simp) (HR.out.alloc _) (by simp; omega) (by simp; omega) (by simp) ?_; intro v' w1 ho' hg')
    go_ret
    exact ⟨_, rfl, ho', ho.grown_below ((Below.refl _ _).alloc (Nat.le_refl _) _) hg' (by simp) (Nat.le_refl _)⟩
end Go.Proofs.YtlikinglgegclaaDoor
/- Number: a number from 0 to below a bound. -/
namespace Go.Proofs.YtlikinglgegclaaDoor
open Go.RowKit Go.Cour
theorem tmod_low (a b : Int) (hb : 0 < b) : -b < a.tmod b ∧ a.tmod b < b := by
  have := Int.tmod_lt_of_pos a hb
  have := Int.lt_tmod_of_pos a hb
  omega
theorem emod_of_tmod (a b : Int) (hb : 0 < b) : a % b = if a.tmod b < 0 then a.tmod b + b else a.tmod b := by
  have h1 := tmod_low a b hb
  have h2 := Int.mul_tdiv_add_tmod a b
  split
  · refine (Int.emod_emod_of_dvd a (Int.dvd_refl b)).symm.trans ?_
    rw [← h2]
    have : (b * a.tdiv b + a.tmod b) % b = (a.tmod b + b) % b := by
      rw [Int.add_comm, Int.add_mul_emod_self_left, Int.add_emod_right]
    rw [h2] at this ⊢
    rw [Int.emod_emod_of_dvd _ (Int.dvd_refl b), this]
    exact Int.emod_eq_of_lt (by omega) (by omega)
  · have : (b * a.tdiv b + a.tmod b) % b = a.tmod b % b := by
      rw [Int.add_comm, Int.add_mul_emod_self_left]
    rw [h2] at this
    rw [this]
    exact Int.emod_eq_of_lt (by omega) (by omega)
theorem number_calls (a b : Int) (w : World) (hb : 0 < b) (hb2 : b < 4611686018427387904) :
    Calls Tryd.prog 7 #[.int .i64 a, .int .i64 b] w fun e w' => e = .returned (.int .i64 (a % b)) ∧ w' = w := by
  have hl := tmod_low a b hb
  have HE := hid (emod_of_tmod a b hb)
  have hbz : (b == 0) = false := by rw [beq_eq_false_iff_ne]; omega
  have hlt1 := hl.1
  have hlt2 := hl.2
  clear hl
  by_cases hn : a.tmod b < 0
  · go_enter Tryd.func7, Tryd.ntmps7
    go_wp2
    go_ret
    exact ⟨by rw [HE.out, if_pos hn]; rfl, rfl⟩
  · go_enter Tryd.func7, Tryd.ntmps7
    go_wp2
    go_ret
    exact ⟨by rw [HE.out, if_neg (by omega)]; rfl, rfl⟩
end Go.Proofs.YtlikinglgegclaaDoor
/- File, Clone: bytes made of a number; a copy. -/
namespace Go.Proofs.YtlikinglgegclaaDoor
open Go.RowKit Go.Cour
theorem rd_append (xs : List Int) (y : Int) (i : Nat) : rd (xs ++ [y]) i = if i < xs.length then rd xs i else if i = xs.length then y else 0 := by
  unfold rd
  rw [List.getD_eq_getElem?_getD, List.getElem?_append]
  split
  · rw [List.getD_eq_getElem?_getD]
  · by_cases h : i = xs.length
    · simp [h]
    · rw [if_neg h, List.getElem?_eq_none (by simp; omega)]; rfl
theorem bytesOk_snoc {xs : List Int} (h : bytesOk xs) {y : Int} (h0 : 0 ≤ y) (h1 : y < 256) : bytesOk (xs ++ [y]) := by
  intro i
  rw [rd_append]
  split
  · exact h i
  · split <;> omega
def fileByte (n : Int) (i : Nat) : Int := wrap64 (wrap64 (n + i * 7) + i / 13) % 256
def fileTo (n : Int) (i : Nat) : List Int := (List.range i).map (fileByte n)
theorem fileTo_succ (n : Int) (i : Nat) : fileTo n (i + 1) = fileTo n i ++ [fileByte n i] := by simp [fileTo, List.range_succ]
theorem fileTo_length (n : Int) (i : Nat) : (fileTo n i).length = i := by simp [fileTo]
theorem fileTo_ok (n : Int) : ∀ i, bytesOk (fileTo n i)
  | 0 => fun j => by simp [fileTo, rd]
  | i + 1 => by rw [fileTo_succ]; exact bytesOk_snoc (fileTo_ok n i) (Int.emod_nonneg _ (by decide)) (Int.emod_lt_of_pos _ (by decide))
set_option maxHeartbeats 2000000 in
set_option maxRecDepth 100000 in
theorem file_calls (n : Int) (size : Nat) (w : World) (hs : size ≤ 1000000) :
    Calls Tryd.prog 8 #[.int .i64 n, .int .i64 size] w fun e w' => ∃ v, e = .returned v ∧ Own w' w.heap.size 5 .u8 v (fileTo n size) ∧ Below w.heap.size w w' := by
  go_enter Tryd.func8, Tryd.ntmps8
  go_wp2
  go_loopg [5, 6] (size + 1) (fun kq v5 v6 wr => ∃ i : Nat, i ≤ size ∧ v6 = .int .i64 i ∧ Hd (kq + i = size + 1) ∧ Own wr w.heap.size 5 .u8 v5 (fileTo n i) ∧ Below w.heap.size w wr)
  case atStart => exact ⟨0, by omega, rfl, hid (by omega), Own.nil _ _ _ _, Below.refl _ _⟩
  case round =>
    obtain ⟨i, hi, rfl, hq, ho, hb⟩ := hrel
    by_cases hlt : i < size
    · have hl := fileTo_length n i
      have HL := hid hl
      clear hl
      have hz := hb.size
      go_wp2_with (at_builtin; refine append_one rfl (.tmp 12) (.tmp 21) 24 rfl w.heap.size 5 .u8 1 undBytes infoU8 _ (fileTo n i) rfl ho _ rfl (by rw [HL.out]; omega) (by rw [HL.out]; omega) hz ?_; intro v' w1 ho' hg')
      go_roundg (gk - 1)
      case measure => have := hq.out; omega
      case rel => exact ⟨i + 1, by omega, by go_num, hid (by have := hq.out; omega), by rw [fileTo_succ]; exact ho', ho.grown_below hb hg' hz (Nat.le_refl _)⟩
    · obtain rfl : i = size := by omega
      go_wp2
      go_ret
      exact ⟨_, rfl, ho, hb⟩
end Go.Proofs.YtlikinglgegclaaDoor
/- stream.Count. -/
namespace Go.Proofs.YtlikinglgegclaaDoor
open Go.RowKit Go.Cour
attribute [local go_sem] max2_int min2_int
/-- How many chunks: of whole ones, one more if they are too few, one at least. -/
def countD (p d e : Int) : Int := max (if e < p then d + 1 else d) 1
def countI (p q : Int) : Int := countD p (max p 0 / max q 1) (max p 0 / max q 1 * max q 1)
end Go.Proofs.YtlikinglgegclaaDoor
