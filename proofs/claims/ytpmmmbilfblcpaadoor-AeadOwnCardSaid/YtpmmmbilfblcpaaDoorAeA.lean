/- aead.padded, aead.length. -/
import Derived.Test.YtpmmmbilfblcpaaDoorPolE
import Derived.Test.YtpmmmbilfblcpaaDoorChaC
import Derived.Test.YtpmmmbilfblcpaaDoorZeros
namespace Go.Proofs.YtpmmmbilfblcpaaDoor
open Go.RowKit Go.Cour
/-- How many zeros fill n to sixteens. -/
def gap (n : Nat) : Nat := (16 - n % 16) % 16
def padTo (xs b : List Int) : List Int := xs ++ b ++ List.replicate (gap b.length) 0
theorem undI : Tryd.prog.underlying 3 = some (.int .i64) := by kernel_rfl
set_option maxHeartbeats 1000000 in
set_option maxRecDepth 100000 in
theorem padded_calls (base : Nat) (v : Value) (xs b : List Int) (A : Option Addr) (c n : Nat) (w : World) (hn : n = b.length) (hA : A = none → c = 0) (hr : Rd w A .u8 b) (hown : Own w base 5 .u8 v xs)
    (hl : xs.length ≤ 1000000) (hlb : b.length ≤ 1000000) (hbase : base ≤ w.heap.size) :
    Calls Tryd.prog 51 #[v, .slice A n c] w fun e w' => ∃ v', e = .returned v' ∧ Own w' base 5 .u8 v' (padTo xs b) ∧ Below base w w' := by
  subst hn
  have h1 : (b.length : Int).tmod 16 = ((b.length % 16 : Nat) : Int) := by
    rw [Int.tmod_eq_emod_of_nonneg (by omega)]; omega
  obtain ⟨r, hr0⟩ : ∃ r, r = b.length % 16 := ⟨_, rfl⟩
  rw [← hr0] at h1
  have h2 : IntKind.i64.wrap (16 - (r : Int)) = ((16 - r : Nat) : Int) := by rw [IntKind.wrap_i64]; omega
  obtain ⟨q, hq⟩ : ∃ q, q = 16 - r := ⟨_, rfl⟩
  rw [← hq] at h2
  have h3 : (q : Int).tmod 16 = ((gap b.length : Nat) : Int) := by
    rw [Int.tmod_eq_emod_of_nonneg (by omega)]; unfold gap; omega
  have hgap : gap b.length < 16 := by unfold gap; omega
  clear hq hr0
  go_enter Tryd.func51, Tryd.ntmps51
  go_wp2_with (first
    | (at_builtin; refine append_list rfl (.tmp 5) (.tmp 6) 25 rfl base 5 .u8 1 undBytes infoU8 _ xs rfl hown A b.length c b rfl rfl hA hr (by omega) (by omega) hbase ?_; intro v1 w1 ho1 hg1)
    | (at_builtin; refine append_zeros rfl (.tmp 8) (.tmp 13) 25 3 rfl base 5 .u8 .i64 .i64 1 undBytes undI infoU8 _ (xs ++ b) rfl ho1 (gap b.length) rfl (by simp; omega) (by simp; omega) (Nat.le_trans hbase hg1.size) ?_; intro v2 w2 ho2 hg2)
    | fail)
  go_ret
  have hB1 := hown.grown_below (Below.refl base w) hg1 hbase (Nat.le_refl _)
  have hB2 := ho1.grown_below hB1 hg2 (Nat.le_trans hbase hg1.size) (Nat.le_refl _)
  exact ⟨v2, by simp, ho2, hB2⟩
/-- A length, in eight bytes. -/
def lenTo (n : Nat) (i : Nat) : List Int := (List.range i).map fun j => (n : Int) / 2 ^ (8 * j) % 256
theorem lenTo_succ (n i : Nat) : lenTo n (i + 1) = lenTo n i ++ [(n : Int) / 2 ^ (8 * i) % 256] := by simp [lenTo, List.range_succ]
theorem lenTo_length (n i : Nat) : (lenTo n i).length = i := by simp [lenTo]
set_option maxHeartbeats 1000000 in
set_option maxRecDepth 100000 in
theorem length_calls (base : Nat) (v : Value) (xs : List Int) (A : Option Addr) (c n : Nat) (w : World) (hown : Own w base 5 .u8 v xs) (hl : xs.length ≤ 1000000) (hln : n ≤ 1000000) (hbase : base ≤ w.heap.size) :
    Calls Tryd.prog 52 #[v, .slice A n c] w fun e w' => ∃ v', e = .returned v' ∧ Own w' base 5 .u8 v' (xs ++ lenTo n 8) ∧ Below base w w' := by
  go_enter Tryd.func52, Tryd.ntmps52
  go_wp2
  go_loopg [0, 6] 8 (fun kq v0 v6 wr => ∃ i : Nat, i ≤ 8 ∧ v6 = .int .i64 i ∧ Hd (kq + i = 8) ∧ Own wr base 5 .u8 v0 (xs ++ lenTo n i) ∧ Hd (Below base w wr))
  case atStart => exact ⟨0, by omega, rfl, hid rfl, by simpa [lenTo] using hown, hid (Below.refl _ _)⟩
  case round =>
    obtain ⟨i, hi, rfl, hk, ho, hb⟩ := hrel
    by_cases hlt : i < 8
    · have hz : base ≤ wr.heap.size := Nat.le_trans hbase hb.out.size
      have hle : (xs ++ lenTo n i).length ≤ 1000008 := by rw [List.length_append, lenTo_length]; omega
      have HLE := hid hle
      clear hle
      go_wp2_with (first | (at_builtin; refine append_one rfl (.tmp 9) (.tmp 17) 25 rfl base 5 .u8 1 undBytes infoU8 _ (xs ++ lenTo n i) rfl ho _ rfl (by have := HLE.out; omega) (by have := HLE.out; omega) hz ?_; intro v' w1 ho' hg') | fail)
      go_roundg (gk - 1)
      case measure => have := hk.out; omega
      case rel =>
        refine ⟨i + 1, by omega, by go_num, hid (by have := hk.out; omega), ?_, hid (ho.grown_below hb.out hg' hz (Nat.le_refl _))⟩
        rw [lenTo_succ, ← List.append_assoc]; exact ho'
    · obtain rfl : i = 8 := by omega
      go_wp2
      go_ret
      exact ⟨_, by simp, ho, hb.out⟩
end Go.Proofs.YtpmmmbilfblcpaaDoor
