import Derived.Test.YtlikinglgegclaaGreatDoorProg
import Derived.Deep.QuietTactic
import Derived.BigQuiet
import Derived.Test.YtlikinglgegclaaGreatDoorMgDS0
import Derived.Test.YtlikinglgegclaaGreatDoorMgDS1
import Derived.Test.YtlikinglgegclaaGreatDoorMgDS2
import Derived.Test.YtlikinglgegclaaGreatDoorMgDS3
set_option linter.unusedSimpArgs false
set_option linter.unusedVariables false
open List (getElem_toArray getElem_cons_zero getElem_cons_succ)
/- SameBytes, Bytes: lists of bytes held against each other, copied. -/
namespace Go.Proofs.YtlikinglgegclaaGreatDoor
open Go.RowKit Go.Cour
theorem ext_rd {xs ys : List Int} (hl : xs.length = ys.length) (h : ∀ i, i < xs.length → rd xs i = rd ys i) : xs = ys := by
  apply List.ext_getElem hl
  intro i h1 h2
  have := h i h1
  simpa [rd, h1, h2] using this
set_option maxHeartbeats 2000000 in
set_option maxRecDepth 100000 in
theorem same_calls (xs ys : List Int) (A B : Option Addr) (c d m n : Nat) (w : World) (hm : m = xs.length) (hn : n = ys.length) (hx : Rd w A .u8 xs) (hy : Rd w B .u8 ys) (hl : xs.length ≤ 1000000000) (hl' : ys.length ≤ 1000000000) :
    Calls Tryz.prog 19 #[.slice A m c, .slice B n d] w fun e w' => e = .returned (.bool (decide (xs = ys))) ∧ ∃ q, w' = w.drewN q := by
  subst hm hn
  by_cases he : xs.length = ys.length
  · have HE := hid he
    have hb : ((xs.length : Int) == (ys.length : Int)) = true := by rw [beq_iff_eq]; omega
    have hb' : (xs.length == ys.length) = true := by rw [beq_iff_eq]; omega
    obtain ⟨n, hnx⟩ : ∃ n, Hd (n = xs.length) := ⟨_, hid rfl⟩
    rw [← show n = ys.length by rw [hnx.out]; exact he] at hl' ⊢
    rw [← hnx.out] at hl ⊢
    have HX := hid hx
    have HY := hid hy
    clear hx hy he hb hb'
    go_enter Tryz.func19, Tryz.ntmps19
    go_wp2
    go_loopg [5] (n + 1) (fun kq v5 wr => ∃ i : Nat, i ≤ n ∧ v5 = .int .i64 i ∧ Hd (kq + i = n + 1) ∧ Hd (∀ j, j < i → rd xs j = rd ys j) ∧ Hd (∃ q, wr = w.drewN q))
    case atStart => exact ⟨0, by omega, rfl, hid (by omega), hid (by intro j hj; omega), hid ⟨0, rfl⟩⟩
    case round =>
      obtain ⟨i, hi, rfl, hq, hs, hw⟩ := hrel
      obtain ⟨q, rfl⟩ := hw.out
      by_cases hlt : i < n
      · obtain ⟨g, o, rfl⟩ := HX.out.at (by rw [← hnx.out]; omega)
        obtain ⟨g', o', rfl⟩ := HY.out.at (by rw [← HE.out, ← hnx.out]; omega)
        have cx := HX.out.cellAt i (by rw [← hnx.out]; omega)
        have cy := HY.out.cellAt i (by rw [← HE.out, ← hnx.out]; omega)
        have a1 : (i : Int) < n := by omega
        obtain ⟨x, hx⟩ : ∃ x, Hd (x = rd xs i) := ⟨_, hid rfl⟩
        obtain ⟨y, hy⟩ : ∃ y, Hd (y = rd ys i) := ⟨_, hid rfl⟩
        rw [← hx.out] at cx
        rw [← hy.out] at cy
        by_cases hxy : x = y
        · have hb : (x == y) = true := by rw [beq_iff_eq]; exact hxy
          have HXY := hid hxy
          clear hxy
          go_wp2
          go_quiet (fail)
          go_wp2
          go_roundg (gk - 1)
          case measure => have := hq.out; omega
          case rel =>
            refine ⟨i + 1, by omega, by go_num, hid (by have := hq.out; omega), hid ?_, hid ⟨_, rfl⟩⟩
            intro j hj
            by_cases hji : j = i
            · subst hji; rw [← hx.out, ← hy.out]; exact HXY.out
            · exact hs.out j (by omega)
        · have hb : (x == y) = false := by rw [beq_eq_false_iff_ne]; exact hxy
          have HXY := hid hxy
          clear hxy
          go_wp2
          go_quiet (fail)
          go_wp2
          go_ret
          have hd : decide (xs = ys) = false := decide_eq_false (fun h => HXY.out (by rw [hx.out, hy.out, h]))
          rw [hd]
          exact ⟨rfl, _, rfl⟩
      · obtain rfl : i = n := by omega
        go_wp2
        go_ret
        have hd : decide (xs = ys) = true := decide_eq_true (ext_rd HE.out (fun j hj => hs.out j (by rw [hnx.out]; exact hj)))
        rw [hd]
        exact ⟨rfl, _, rfl⟩
  · have hb : ((xs.length : Int) == (ys.length : Int)) = false := by rw [beq_eq_false_iff_ne]; omega
    have hb' : (xs.length == ys.length) = false := by rw [beq_eq_false_iff_ne]; omega
    have HE := hid he
    clear he
    go_enter Tryz.func19, Tryz.ntmps19
    go_wp2
    go_ret
    have hd : decide (xs = ys) = false := decide_eq_false (fun h => HE.out (by rw [h]))
    rw [hd]
    exact ⟨rfl, 0, rfl⟩
end Go.Proofs.YtlikinglgegclaaGreatDoor
