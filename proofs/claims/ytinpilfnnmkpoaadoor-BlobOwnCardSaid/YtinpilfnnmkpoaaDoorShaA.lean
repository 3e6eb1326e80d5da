/- A word, turned to the right. -/
import Derived.Test.YtinpilfnnmkpoaaDoorProg
import Derived.Test.YtinpilfnnmkpoaaDoorBase
import Derived.StillTailTactics
import Derived.Deep.QuietTactic
import Derived.BigQuiet
import Derived.Laws.Closers25b
namespace Go.Proofs.YtinpilfnnmkpoaaDoor
open Go.RowKit Go.Cour
/-- x turned to the right by k. -/
def rotr (k : Nat) (x : Int) : Int := bits .or .u32 (x * 2 ^ (32 - k) % 4294967296) (x / 2 ^ k)
theorem rl2_calls (x : Int) (w : World) (h : 0 ≤ x) (h' : x < 4294967296) :
    Calls Tryd.prog 55 #[.int .u32 x, .int .i64 (-2)] w fun e w' => e = .returned (.int .u32 (rotr 2 x)) ∧ w' = w := by
  have b1 : bits .and .u64 (IntKind.u64.wrap (-2)) 31 = 30 := by decide
  go_enter Tryd.func55, Tryd.ntmps55
  go_wp2
  go_ret
  exact ⟨rfl, rfl⟩
theorem right2_calls (x : Int) (w : World) (h : 0 ≤ x) (h' : x < 4294967296) :
    Calls Tryd.prog 54 #[.int .u32 x, .int .i64 2] w fun e w' => e = .returned (.int .u32 (rotr 2 x)) ∧ w' = w := by
  go_enter Tryd.func54, Tryd.ntmps54
  go_wp2_with (first
    | (go_at_call 55; refine (rl2_calls x _ h h').mono ?_; rintro e w1 ⟨rfl, rfl⟩)
    | fail)
  go_ret
  exact ⟨rfl, rfl⟩
theorem rot2_calls (x : Int) (w : World) (h : 0 ≤ x) (h' : x < 4294967296) :
    Calls Tryd.prog 45 #[.int .u32 x, .int .u64 2] w fun e w' => e = .returned (.int .u32 (bits .or .u32 (x / 2 ^ 2) (x * 2 ^ (32 - 2) % 4294967296))) ∧ w' = w := by
  go_enter Tryd.func45, Tryd.ntmps45
  go_wp2
  go_ret
  exact ⟨rfl, rfl⟩
theorem rl6_calls (x : Int) (w : World) (h : 0 ≤ x) (h' : x < 4294967296) :
    Calls Tryd.prog 55 #[.int .u32 x, .int .i64 (-6)] w fun e w' => e = .returned (.int .u32 (rotr 6 x)) ∧ w' = w := by
  have b1 : bits .and .u64 (IntKind.u64.wrap (-6)) 31 = 26 := by decide
  go_enter Tryd.func55, Tryd.ntmps55
  go_wp2
  go_ret
  exact ⟨rfl, rfl⟩
theorem right6_calls (x : Int) (w : World) (h : 0 ≤ x) (h' : x < 4294967296) :
    Calls Tryd.prog 54 #[.int .u32 x, .int .i64 6] w fun e w' => e = .returned (.int .u32 (rotr 6 x)) ∧ w' = w := by
  go_enter Tryd.func54, Tryd.ntmps54
  go_wp2_with (first
    | (go_at_call 55; refine (rl6_calls x _ h h').mono ?_; rintro e w1 ⟨rfl, rfl⟩)
    | fail)
  go_ret
  exact ⟨rfl, rfl⟩
theorem rot6_calls (x : Int) (w : World) (h : 0 ≤ x) (h' : x < 4294967296) :
    Calls Tryd.prog 45 #[.int .u32 x, .int .u64 6] w fun e w' => e = .returned (.int .u32 (bits .or .u32 (x / 2 ^ 6) (x * 2 ^ (32 - 6) % 4294967296))) ∧ w' = w := by
  go_enter Tryd.func45, Tryd.ntmps45
  go_wp2
  go_ret
  exact ⟨rfl, rfl⟩
theorem rl7_calls (x : Int) (w : World) (h : 0 ≤ x) (h' : x < 4294967296) :
    Calls Tryd.prog 55 #[.int .u32 x, .int .i64 (-7)] w fun e w' => e = .returned (.int .u32 (rotr 7 x)) ∧ w' = w := by
  have b1 : bits .and .u64 (IntKind.u64.wrap (-7)) 31 = 25 := by decide
  go_enter Tryd.func55, Tryd.ntmps55
  go_wp2
  go_ret
  exact ⟨rfl, rfl⟩
theorem right7_calls (x : Int) (w : World) (h : 0 ≤ x) (h' : x < 4294967296) :
    Calls Tryd.prog 54 #[.int .u32 x, .int .i64 7] w fun e w' => e = .returned (.int .u32 (rotr 7 x)) ∧ w' = w := by
  go_enter Tryd.func54, Tryd.ntmps54
  go_wp2_with (first
    | (go_at_call 55; refine (rl7_calls x _ h h').mono ?_; rintro e w1 ⟨rfl, rfl⟩)
    | fail)
  go_ret
  exact ⟨rfl, rfl⟩
theorem rot7_calls (x : Int) (w : World) (h : 0 ≤ x) (h' : x < 4294967296) :
    Calls Tryd.prog 45 #[.int .u32 x, .int .u64 7] w fun e w' => e = .returned (.int .u32 (bits .or .u32 (x / 2 ^ 7) (x * 2 ^ (32 - 7) % 4294967296))) ∧ w' = w := by
  go_enter Tryd.func45, Tryd.ntmps45
  go_wp2
  go_ret
  exact ⟨rfl, rfl⟩
theorem rl11_calls (x : Int) (w : World) (h : 0 ≤ x) (h' : x < 4294967296) :
    Calls Tryd.prog 55 #[.int .u32 x, .int .i64 (-11)] w fun e w' => e = .returned (.int .u32 (rotr 11 x)) ∧ w' = w := by
  have b1 : bits .and .u64 (IntKind.u64.wrap (-11)) 31 = 21 := by decide
  go_enter Tryd.func55, Tryd.ntmps55
  go_wp2
  go_ret
  exact ⟨rfl, rfl⟩
theorem right11_calls (x : Int) (w : World) (h : 0 ≤ x) (h' : x < 4294967296) :
    Calls Tryd.prog 54 #[.int .u32 x, .int .i64 11] w fun e w' => e = .returned (.int .u32 (rotr 11 x)) ∧ w' = w := by
  go_enter Tryd.func54, Tryd.ntmps54
  go_wp2_with (first
    | (go_at_call 55; refine (rl11_calls x _ h h').mono ?_; rintro e w1 ⟨rfl, rfl⟩)
    | fail)
  go_ret
  exact ⟨rfl, rfl⟩
theorem rot11_calls (x : Int) (w : World) (h : 0 ≤ x) (h' : x < 4294967296) :
    Calls Tryd.prog 45 #[.int .u32 x, .int .u64 11] w fun e w' => e = .returned (.int .u32 (bits .or .u32 (x / 2 ^ 11) (x * 2 ^ (32 - 11) % 4294967296))) ∧ w' = w := by
  go_enter Tryd.func45, Tryd.ntmps45
  go_wp2
  go_ret
  exact ⟨rfl, rfl⟩
theorem rl13_calls (x : Int) (w : World) (h : 0 ≤ x) (h' : x < 4294967296) :
    Calls Tryd.prog 55 #[.int .u32 x, .int .i64 (-13)] w fun e w' => e = .returned (.int .u32 (rotr 13 x)) ∧ w' = w := by
  have b1 : bits .and .u64 (IntKind.u64.wrap (-13)) 31 = 19 := by decide
  go_enter Tryd.func55, Tryd.ntmps55
  go_wp2
  go_ret
  exact ⟨rfl, rfl⟩
theorem right13_calls (x : Int) (w : World) (h : 0 ≤ x) (h' : x < 4294967296) :
    Calls Tryd.prog 54 #[.int .u32 x, .int .i64 13] w fun e w' => e = .returned (.int .u32 (rotr 13 x)) ∧ w' = w := by
  go_enter Tryd.func54, Tryd.ntmps54
  go_wp2_with (first
    | (go_at_call 55; refine (rl13_calls x _ h h').mono ?_; rintro e w1 ⟨rfl, rfl⟩)
    | fail)
  go_ret
  exact ⟨rfl, rfl⟩
theorem rot13_calls (x : Int) (w : World) (h : 0 ≤ x) (h' : x < 4294967296) :
    Calls Tryd.prog 45 #[.int .u32 x, .int .u64 13] w fun e w' => e = .returned (.int .u32 (bits .or .u32 (x / 2 ^ 13) (x * 2 ^ (32 - 13) % 4294967296))) ∧ w' = w := by
  go_enter Tryd.func45, Tryd.ntmps45
  go_wp2
  go_ret
  exact ⟨rfl, rfl⟩
theorem rl17_calls (x : Int) (w : World) (h : 0 ≤ x) (h' : x < 4294967296) :
    Calls Tryd.prog 55 #[.int .u32 x, .int .i64 (-17)] w fun e w' => e = .returned (.int .u32 (rotr 17 x)) ∧ w' = w := by
  have b1 : bits .and .u64 (IntKind.u64.wrap (-17)) 31 = 15 := by decide
  go_enter Tryd.func55, Tryd.ntmps55
  go_wp2
  go_ret
  exact ⟨rfl, rfl⟩
theorem right17_calls (x : Int) (w : World) (h : 0 ≤ x) (h' : x < 4294967296) :
    Calls Tryd.prog 54 #[.int .u32 x, .int .i64 17] w fun e w' => e = .returned (.int .u32 (rotr 17 x)) ∧ w' = w := by
  go_enter Tryd.func54, Tryd.ntmps54
  go_wp2_with (first
    | (go_at_call 55; refine (rl17_calls x _ h h').mono ?_; rintro e w1 ⟨rfl, rfl⟩)
    | fail)
  go_ret
  exact ⟨rfl, rfl⟩
theorem rot17_calls (x : Int) (w : World) (h : 0 ≤ x) (h' : x < 4294967296) :
    Calls Tryd.prog 45 #[.int .u32 x, .int .u64 17] w fun e w' => e = .returned (.int .u32 (bits .or .u32 (x / 2 ^ 17) (x * 2 ^ (32 - 17) % 4294967296))) ∧ w' = w := by
  go_enter Tryd.func45, Tryd.ntmps45
  go_wp2
  go_ret
  exact ⟨rfl, rfl⟩
theorem rl18_calls (x : Int) (w : World) (h : 0 ≤ x) (h' : x < 4294967296) :
    Calls Tryd.prog 55 #[.int .u32 x, .int .i64 (-18)] w fun e w' => e = .returned (.int .u32 (rotr 18 x)) ∧ w' = w := by
  have b1 : bits .and .u64 (IntKind.u64.wrap (-18)) 31 = 14 := by decide
  go_enter Tryd.func55, Tryd.ntmps55
  go_wp2
  go_ret
  exact ⟨rfl, rfl⟩
theorem right18_calls (x : Int) (w : World) (h : 0 ≤ x) (h' : x < 4294967296) :
    Calls Tryd.prog 54 #[.int .u32 x, .int .i64 18] w fun e w' => e = .returned (.int .u32 (rotr 18 x)) ∧ w' = w := by
  go_enter Tryd.func54, Tryd.ntmps54
  go_wp2_with (first
    | (go_at_call 55; refine (rl18_calls x _ h h').mono ?_; rintro e w1 ⟨rfl, rfl⟩)
    | fail)
  go_ret
  exact ⟨rfl, rfl⟩
theorem rot18_calls (x : Int) (w : World) (h : 0 ≤ x) (h' : x < 4294967296) :
    Calls Tryd.prog 45 #[.int .u32 x, .int .u64 18] w fun e w' => e = .returned (.int .u32 (bits .or .u32 (x / 2 ^ 18) (x * 2 ^ (32 - 18) % 4294967296))) ∧ w' = w := by
  go_enter Tryd.func45, Tryd.ntmps45
  go_wp2
  go_ret
  exact ⟨rfl, rfl⟩
theorem rl19_calls (x : Int) (w : World) (h : 0 ≤ x) (h' : x < 4294967296) :
    Calls Tryd.prog 55 #[.int .u32 x, .int .i64 (-19)] w fun e w' => e = .returned (.int .u32 (rotr 19 x)) ∧ w' = w := by
  have b1 : bits .and .u64 (IntKind.u64.wrap (-19)) 31 = 13 := by decide
  go_enter Tryd.func55, Tryd.ntmps55
  go_wp2
  go_ret
  exact ⟨rfl, rfl⟩
theorem right19_calls (x : Int) (w : World) (h : 0 ≤ x) (h' : x < 4294967296) :
    Calls Tryd.prog 54 #[.int .u32 x, .int .i64 19] w fun e w' => e = .returned (.int .u32 (rotr 19 x)) ∧ w' = w := by
  go_enter Tryd.func54, Tryd.ntmps54
  go_wp2_with (first
    | (go_at_call 55; refine (rl19_calls x _ h h').mono ?_; rintro e w1 ⟨rfl, rfl⟩)
    | fail)
  go_ret
  exact ⟨rfl, rfl⟩
theorem rot19_calls (x : Int) (w : World) (h : 0 ≤ x) (h' : x < 4294967296) :
    Calls Tryd.prog 45 #[.int .u32 x, .int .u64 19] w fun e w' => e = .returned (.int .u32 (bits .or .u32 (x / 2 ^ 19) (x * 2 ^ (32 - 19) % 4294967296))) ∧ w' = w := by
  go_enter Tryd.func45, Tryd.ntmps45
  go_wp2
  go_ret
  exact ⟨rfl, rfl⟩
theorem rl22_calls (x : Int) (w : World) (h : 0 ≤ x) (h' : x < 4294967296) :
    Calls Tryd.prog 55 #[.int .u32 x, .int .i64 (-22)] w fun e w' => e = .returned (.int .u32 (rotr 22 x)) ∧ w' = w := by
  have b1 : bits .and .u64 (IntKind.u64.wrap (-22)) 31 = 10 := by decide
  go_enter Tryd.func55, Tryd.ntmps55
  go_wp2
  go_ret
  exact ⟨rfl, rfl⟩
theorem right22_calls (x : Int) (w : World) (h : 0 ≤ x) (h' : x < 4294967296) :
    Calls Tryd.prog 54 #[.int .u32 x, .int .i64 22] w fun e w' => e = .returned (.int .u32 (rotr 22 x)) ∧ w' = w := by
  go_enter Tryd.func54, Tryd.ntmps54
  go_wp2_with (first
    | (go_at_call 55; refine (rl22_calls x _ h h').mono ?_; rintro e w1 ⟨rfl, rfl⟩)
    | fail)
  go_ret
  exact ⟨rfl, rfl⟩
theorem rot22_calls (x : Int) (w : World) (h : 0 ≤ x) (h' : x < 4294967296) :
    Calls Tryd.prog 45 #[.int .u32 x, .int .u64 22] w fun e w' => e = .returned (.int .u32 (bits .or .u32 (x / 2 ^ 22) (x * 2 ^ (32 - 22) % 4294967296))) ∧ w' = w := by
  go_enter Tryd.func45, Tryd.ntmps45
  go_wp2
  go_ret
  exact ⟨rfl, rfl⟩
theorem rl25_calls (x : Int) (w : World) (h : 0 ≤ x) (h' : x < 4294967296) :
    Calls Tryd.prog 55 #[.int .u32 x, .int .i64 (-25)] w fun e w' => e = .returned (.int .u32 (rotr 25 x)) ∧ w' = w := by
  have b1 : bits .and .u64 (IntKind.u64.wrap (-25)) 31 = 7 := by decide
  go_enter Tryd.func55, Tryd.ntmps55
  go_wp2
  go_ret
  exact ⟨rfl, rfl⟩
theorem right25_calls (x : Int) (w : World) (h : 0 ≤ x) (h' : x < 4294967296) :
    Calls Tryd.prog 54 #[.int .u32 x, .int .i64 25] w fun e w' => e = .returned (.int .u32 (rotr 25 x)) ∧ w' = w := by
  go_enter Tryd.func54, Tryd.ntmps54
  go_wp2_with (first
    | (go_at_call 55; refine (rl25_calls x _ h h').mono ?_; rintro e w1 ⟨rfl, rfl⟩)
    | fail)
  go_ret
  exact ⟨rfl, rfl⟩
theorem rot25_calls (x : Int) (w : World) (h : 0 ≤ x) (h' : x < 4294967296) :
    Calls Tryd.prog 45 #[.int .u32 x, .int .u64 25] w fun e w' => e = .returned (.int .u32 (bits .or .u32 (x / 2 ^ 25) (x * 2 ^ (32 - 25) % 4294967296))) ∧ w' = w := by
  go_enter Tryd.func45, Tryd.ntmps45
  go_wp2
  go_ret
  exact ⟨rfl, rfl⟩
end Go.Proofs.YtinpilfnnmkpoaaDoor
