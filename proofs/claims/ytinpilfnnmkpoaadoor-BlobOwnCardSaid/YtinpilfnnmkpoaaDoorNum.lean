/- Number: a number from 0 to below a bound. -/
import Derived.Test.YtinpilfnnmkpoaaDoorProg
import Derived.Test.YtinpilfnnmkpoaaDoorBase
namespace Go.Proofs.YtinpilfnnmkpoaaDoor
open Go.RowKit Go.Cour
theorem tmod_low (a b : Int) (hb : 0 < b) : -b < a.tmod b ∧ a.tmod b < b := by
  have := Int.tmod_lt_of_pos a hb
  have := Int.lt_tmod_of_pos a hb
  omega
theorem emod_of_tmod (a b : Int) (hb : 0 < b) : a % b = if a.tmod b < 0 then a.tmod b + b else a.tmod b := by
  have h1 := tmod_low a b hb
  have h2 := Int.mul_tdiv_add_tmod a b
  split
  · refine (Int.emod_emod_of_dvd a (Int.dvd_refl b)).symm.trans ?_
    rw [← h2]
    have : (b * a.tdiv b + a.tmod b) % b = (a.tmod b + b) % b := by
      rw [Int.add_comm, Int.add_mul_emod_self_left, Int.add_emod_right]
    rw [h2] at this ⊢
    rw [Int.emod_emod_of_dvd _ (Int.dvd_refl b), this]
    exact Int.emod_eq_of_lt (by omega) (by omega)
  · have : (b * a.tdiv b + a.tmod b) % b = a.tmod b % b := by
      rw [Int.add_comm, Int.add_mul_emod_self_left]
    rw [h2] at this
    rw [this]
    exact Int.emod_eq_of_lt (by omega) (by omega)
theorem number_calls (a b : Int) (w : World) (hb : 0 < b) (hb2 : b < 4611686018427387904) :
    Calls Tryd.prog 9 #[.int .i64 a, .int .i64 b] w fun e w' => e = .returned (.int .i64 (a % b)) ∧ w' = w := by
  have hl := tmod_low a b hb
  have HE := hid (emod_of_tmod a b hb)
  have hbz : (b == 0) = false := by rw [beq_eq_false_iff_ne]; omega
  have hlt1 := hl.1
  have hlt2 := hl.2
  clear hl
  by_cases hn : a.tmod b < 0
  · go_enter Tryd.func9, Tryd.ntmps9
    go_wp2
    go_ret
    exact ⟨by rw [HE.out, if_pos hn]; rfl, rfl⟩
  · go_enter Tryd.func9, Tryd.ntmps9
    go_wp2
    go_ret
    exact ⟨by rw [HE.out, if_neg (by omega)]; rfl, rfl⟩
end Go.Proofs.YtinpilfnnmkpoaaDoor
