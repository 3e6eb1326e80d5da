/- stream.Count. -/
import Derived.Test.YtpmmmbilfblcpaaDoorAeC
namespace Go.Proofs.YtpmmmbilfblcpaaDoor
open Go.RowKit Go.Cour
attribute [local go_sem] max2_int min2_int
/-- How many chunks: of whole ones, one more if they are too few, one at least. -/
def countD (p d e : Int) : Int := max (if e < p then d + 1 else d) 1
def countI (p q : Int) : Int := countD p (max p 0 / max q 1) (max p 0 / max q 1 * max q 1)
set_option maxHeartbeats 400000 in
theorem count_calls (p q : Int) (w : World) (hp : -1000000 ≤ p ∧ p ≤ 1000000) (hq : -1000000 ≤ q ∧ q ≤ 1000000) :
    Calls Tryd.prog 26 #[.int .i64 p, .int .i64 q] w fun e w' => e = .returned (.int .i64 (countI p q)) ∧ w' = w := by
  obtain ⟨c, hc⟩ : ∃ c : Int, c = max q 1 := ⟨_, rfl⟩
  obtain ⟨s, hs⟩ : ∃ s : Int, s = max p 0 := ⟨_, rfl⟩
  obtain ⟨d, hd⟩ : ∃ d : Int, d = s / c := ⟨_, rfl⟩
  obtain ⟨e, he⟩ : ∃ e : Int, e = d * c := ⟨_, rfl⟩
  have c1 : 1 ≤ c := by omega
  have c2 : c ≤ 1000000 := by omega
  have s1 : 0 ≤ s := by omega
  have s2 : s ≤ 1000000 := by omega
  have d0 : 0 ≤ d := hd ▸ Int.ediv_nonneg s1 (by omega)
  have d1 : d ≤ s := hd ▸ Int.ediv_le_self _ s1
  have e0 : 0 ≤ e := he ▸ Int.mul_nonneg d0 (by omega)
  have e1 : e ≤ s := he ▸ hd ▸ Int.ediv_mul_le _ (by omega)
  have hcount : countI p q = countD p d e := by rw [countI, ← hs, ← hc, ← hd, ← he]
  have m1 : (if q < 1 then (1 : Int) else q) = c := by split <;> omega
  have m2 : (if p < 0 then (0 : Int) else p) = s := by split <;> omega
  have w1 : wrap64 (s.tdiv c) = d := by rw [Int.tdiv_eq_ediv_of_nonneg s1, ← hd]; exact IntWalk.wrap64_in _ (by omega)
  have w2 : wrap64 (d * c) = e := by rw [← he]; exact IntWalk.wrap64_in _ (by omega)
  have w3 : wrap64 (d + 1) = d + 1 := by exact IntWalk.wrap64_in _ (by omega)
  rw [hcount]
  have w6 : d = 0 → e = 0 := fun h => by rw [he, h, Int.zero_mul]
  have w0 : p < 0 → s = 0 ∧ d = 0 ∧ e = 0 := fun h => by
    have : s = 0 := by omega
    subst this
    have : d = 0 := by rw [hd, Int.zero_ediv]
    subst this
    exact ⟨rfl, rfl, by rw [he, Int.zero_mul]⟩
  have w4 : 0 ≤ p → p / c = d := fun h => by rw [hd]; congr 1; omega
  clear hcount hd he hs hc
  unfold countD
  by_cases h0 : 0 ≤ p
  · have w5 := w4 h0
    clear w0 w4
    by_cases hlt : e < p
    · by_cases h1 : 1 ≤ d
      · have m3 : max (if e < p then d + 1 else d) 1 = d + 1 := by rw [if_pos hlt]; omega
        rw [m3]
        go_enter Tryd.func26, Tryd.ntmps26
        go_wp2_with fail
        go_ret
        exact ⟨rfl, rfl⟩
      · obtain rfl : d = 0 := by omega
        obtain rfl := w6 rfl
        have m3 : max (if 0 < p then (0 : Int) + 1 else 0) 1 = 1 := by rw [if_pos hlt]; omega
        rw [m3]
        go_enter Tryd.func26, Tryd.ntmps26
        go_wp2_with fail
        go_ret
        exact ⟨rfl, rfl⟩
    · by_cases h1 : 1 ≤ d
      · have m3 : max (if e < p then d + 1 else d) 1 = d := by rw [if_neg hlt]; omega
        rw [m3]
        go_enter Tryd.func26, Tryd.ntmps26
        go_wp2_with fail
        go_ret
        exact ⟨rfl, rfl⟩
      · obtain rfl : d = 0 := by omega
        obtain rfl := w6 rfl
        have m3 : max (if 0 < p then (0 : Int) + 1 else 0) 1 = 1 := by rw [if_neg hlt]; omega
        rw [m3]
        go_enter Tryd.func26, Tryd.ntmps26
        go_wp2_with fail
        go_ret
        exact ⟨rfl, rfl⟩
  · obtain ⟨rfl, rfl, rfl⟩ := w0 (by omega)
    clear w0 w4 w6
    have m3 : max (if (0 : Int) < p then (0 : Int) + 1 else 0) 1 = 1 := by rw [if_neg (by omega)]; omega
    rw [m3]
    go_enter Tryd.func26, Tryd.ntmps26
    go_wp2_with fail
    go_ret
    exact ⟨rfl, rfl⟩
end Go.Proofs.YtpmmmbilfblcpaaDoor
