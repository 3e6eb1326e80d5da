/- mac.Equal: lists of bytes held against each other. -/
import Derived.Test.YtpmmmbilfblcpaaDoorChaC
import Derived.Test.YtpmmmbilfblcpaaDoorSame
import Derived.Deep.QuietTactic
import Derived.BigQuiet
namespace Go.Proofs.YtpmmmbilfblcpaaDoor
open Go.RowKit Go.Cour
theorem bits_or_u8_nat (a b : Nat) (ha : a < 256) (hb : b < 256) : bits .or .u8 (a : Int) (b : Int) = ((a ||| b : Nat) : Int) := by
  have hx : a ||| b < 2 ^ 8 := Nat.or_lt_two_pow (by omega) (by omega)
  have h1 : (BitVec.ofInt 8 (a : Int)).toNat = a := by
    rw [BitVec.ofInt_natCast, BitVec.toNat_ofNat]; exact Nat.mod_eq_of_lt (by omega)
  have h2 : (BitVec.ofInt 8 (b : Int)).toNat = b := by
    rw [BitVec.ofInt_natCast, BitVec.toNat_ofNat]; exact Nat.mod_eq_of_lt (by omega)
  show IntKind.u8.wrap ((BitVec.ofInt 8 (a : Int) ||| BitVec.ofInt 8 (b : Int)).toNat : Int) = _
  rw [BitVec.toNat_or, h1, h2, IntKind.wrap_u8]
  omega
theorem bits_xor_u8_nat (a b : Nat) (ha : a < 256) (hb : b < 256) : bits .xor .u8 (a : Int) (b : Int) = ((a ^^^ b : Nat) : Int) := by
  have hx : a ^^^ b < 2 ^ 8 := Nat.xor_lt_two_pow (by omega) (by omega)
  have h1 : (BitVec.ofInt 8 (a : Int)).toNat = a := by
    rw [BitVec.ofInt_natCast, BitVec.toNat_ofNat]; exact Nat.mod_eq_of_lt (by omega)
  have h2 : (BitVec.ofInt 8 (b : Int)).toNat = b := by
    rw [BitVec.ofInt_natCast, BitVec.toNat_ofNat]; exact Nat.mod_eq_of_lt (by omega)
  show IntKind.u8.wrap ((BitVec.ofInt 8 (a : Int) ^^^ BitVec.ofInt 8 (b : Int)).toNat : Int) = _
  rw [BitVec.toNat_xor, h1, h2, IntKind.wrap_u8]
  omega
theorem xor_u8_bound (x y : Int) (hx : 0 ≤ x ∧ x < 256) (hy : 0 ≤ y ∧ y < 256) : 0 ≤ bits .xor .u8 x y ∧ bits .xor .u8 x y < 256 := by
  obtain ⟨a, rfl⟩ : ∃ a : Nat, x = (a : Int) := ⟨x.toNat, by omega⟩
  obtain ⟨b, rfl⟩ : ∃ b : Nat, y = (b : Int) := ⟨y.toNat, by omega⟩
  rw [bits_xor_u8_nat a b (by omega) (by omega)]
  have : a ^^^ b < 2 ^ 8 := Nat.xor_lt_two_pow (by omega) (by omega)
  omega
theorem xor_u8_zero (x y : Int) (hx : 0 ≤ x ∧ x < 256) (hy : 0 ≤ y ∧ y < 256) : bits .xor .u8 x y = 0 ↔ x = y := by
  obtain ⟨a, rfl⟩ : ∃ a : Nat, x = (a : Int) := ⟨x.toNat, by omega⟩
  obtain ⟨b, rfl⟩ : ∃ b : Nat, y = (b : Int) := ⟨y.toNat, by omega⟩
  rw [bits_xor_u8_nat a b (by omega) (by omega)]
  have h : a ^^^ b = 0 ↔ a = b := by
    constructor
    · intro h
      have h2 : a ^^^ (a ^^^ b) = a ^^^ 0 := by rw [h]
      rw [← Nat.xor_assoc, Nat.xor_self, Nat.zero_xor, Nat.xor_zero] at h2
      exact h2.symm
    · rintro rfl; exact Nat.xor_self _
  omega
theorem or_u8_zero (x y : Int) (hx : 0 ≤ x ∧ x < 256) (hy : 0 ≤ y ∧ y < 256) : (0 ≤ bits .or .u8 x y ∧ bits .or .u8 x y < 256) ∧ (bits .or .u8 x y = 0 ↔ x = 0 ∧ y = 0) := by
  obtain ⟨a, rfl⟩ : ∃ a : Nat, x = (a : Int) := ⟨x.toNat, by omega⟩
  obtain ⟨b, rfl⟩ : ∃ b : Nat, y = (b : Int) := ⟨y.toNat, by omega⟩
  rw [bits_or_u8_nat a b (by omega) (by omega)]
  have h1 : a ||| b < 2 ^ 8 := Nat.or_lt_two_pow (by omega) (by omega)
  have h : a ||| b = 0 ↔ a = 0 ∧ b = 0 := Nat.or_eq_zero_iff
  omega
set_option maxHeartbeats 1000000 in
set_option maxRecDepth 100000 in
theorem equal_calls (xs ys : List Int) (A B : Option Addr) (c d m n : Nat) (w : World) (hm : m = xs.length) (hn : n = ys.length) (hx : Rd w A .u8 xs) (hy : Rd w B .u8 ys) (hl : m ≤ 1000000000) (hl' : n ≤ 1000000000) (rx : bytesOk xs) (ry : bytesOk ys) :
    Calls Tryd.prog 39 #[.slice A m c, .slice B n d] w fun e w' => e = .returned (.bool (decide (xs = ys))) ∧ ∃ q, w' = w.drewN q := by
  have HM := hid hm
  have HN := hid hn
  have HX := hid hx
  have HY := hid hy
  clear hm hn hx hy
  by_cases he : m = n
  · subst he
    have hne : ((m : Int) != (m : Int)) = false := by simp
    go_enter Tryd.func39, Tryd.ntmps39
    go_wp2_with fail
    go_loopg [5, 14] m (fun kq v5 v14 wr => ∃ (i : Nat) (D : Int), i ≤ m ∧ v14 = .int .i64 i ∧ v5 = .int .u8 D ∧ Hd (kq + i = m) ∧ Hd (0 ≤ D ∧ D < 256) ∧ Hd (D = 0 ↔ ∀ j, j < i → rd xs j = rd ys j) ∧ Hd (∃ q, wr = w.drewN q))
    case atStart => exact ⟨0, 0, by omega, rfl, rfl, hid (by omega), hid (by omega), hid ⟨fun _ j hj => absurd hj (Nat.not_lt_zero _), fun _ => rfl⟩, hid ⟨0, rfl⟩⟩
    case round =>
      obtain ⟨i, D, hi, rfl, rfl, hq, hD, hs, hw⟩ := hrel
      obtain ⟨q, rfl⟩ := hw.out
      by_cases hlt : i < m
      · obtain ⟨g, o, rfl⟩ := HX.out.at (by rw [← HM.out]; omega)
        obtain ⟨g', o', rfl⟩ := HY.out.at (by rw [← HN.out]; omega)
        have cx := HX.out.cellAt i (by rw [← HM.out]; omega)
        have cy := HY.out.cellAt i (by rw [← HN.out]; omega)
        have a1 : (i : Int) < m := by omega
        obtain ⟨x, hx⟩ : ∃ x, Hd (x = rd xs i) := ⟨_, hid rfl⟩
        obtain ⟨y, hy⟩ : ∃ y, Hd (y = rd ys i) := ⟨_, hid rfl⟩
        rw [← hx.out] at cx
        rw [← hy.out] at cy
        have bx : Hd (0 ≤ x ∧ x < 256) := hid (by rw [hx.out]; exact rx i)
        have byy : Hd (0 ≤ y ∧ y < 256) := hid (by rw [hy.out]; exact ry i)
        go_wp2_with fail
        go_quiet (fail)
        go_wp2_with fail
        go_roundg (gk - 1)
        case measure => have := hq.out; omega
        case rel =>
          have hxb := xor_u8_bound x y bx.out byy.out
          have hob := or_u8_zero D _ hD.out hxb
          refine ⟨i + 1, _, by omega, by go_num, rfl, hid (by have := hq.out; omega), hid hob.1, hid ?_, hid ⟨_, rfl⟩⟩
          rw [hob.2, xor_u8_zero x y bx.out byy.out, hs.out, hx.out, hy.out]
          constructor
          · rintro ⟨h1, h2⟩ j hj
            by_cases hji : j = i
            · subst hji; exact h2
            · exact h1 j (by omega)
          · intro h1
            exact ⟨fun j hj => h1 j (by omega), h1 i (by omega)⟩
      · obtain rfl : i = m := by omega
        have hb : (D == 0) = decide (xs = ys) := by
          have h1 : D = 0 ↔ xs = ys := by
            rw [hs.out]
            exact ⟨fun h => ext_rd (by rw [← HM.out, ← HN.out]) (fun j hj => h j (by rw [HM.out]; exact hj)), fun h j _ => by rw [h]⟩
          rw [Bool.eq_iff_iff, beq_iff_eq, decide_eq_true_iff]
          exact h1
        go_wp2_with fail
        go_ret
        exact ⟨rfl, _, rfl⟩
  · have hne : ((m : Int) == (n : Int)) = false := by rw [beq_eq_false_iff_ne]; omega
    have hd : Hd (decide (xs = ys) = false) := hid (decide_eq_false (fun h => he (by rw [HM.out, HN.out, h])))
    have hne2 : (m == n) = false := by rw [beq_eq_false_iff_ne]; exact he
    go_enter Tryd.func39, Tryd.ntmps39
    go_wp2_with fail
    go_ret
    rw [hd.out]
    exact ⟨rfl, 0, rfl⟩
end Go.Proofs.YtpmmmbilfblcpaaDoor
