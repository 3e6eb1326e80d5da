/- Clone: a copy. -/
import Derived.Test.YtpmmmbilfblcpaaDoorChaC
namespace Go.Proofs.YtpmmmbilfblcpaaDoor
open Go.RowKit Go.Cour
set_option maxHeartbeats 2000000 in
set_option maxRecDepth 100000 in
theorem clone_calls (A : Option Addr) (m c : Nat) (xs : List Int) (w : World) (hm : m = xs.length) (hA : A = none → c = 0) (hr : Rd w A .u8 xs) (hl : xs.length ≤ 1000000000) :
    Calls Tryd.prog 48 #[.slice A m c] w fun e w' => ∃ v, e = .returned v ∧ Own w' w.heap.size 5 .u8 v xs ∧ Below w.heap.size w w' := by
  subst hm
  cases A with
  | none =>
    obtain rfl := hA rfl
    have hx : xs = [] := by
      rcases hr with hr | ⟨g, o, he, _⟩
      · exact hr
      · cases he
    subst hx
    have he := fun w => Lib.run_eql_slice_nil (P := Tryd.prog) w 25 5 none 0 0 0 0 undBytes
    go_enter Tryd.func48, Tryd.ntmps48
    go_wp2
    go_ret
    exact ⟨_, rfl, Own.nil _ _ _ _, Below.refl _ _⟩
  | some ad =>
    have HR := hid hr
    clear hr hA
    have he := fun w => Lib.run_eql_slice_nil (P := Tryd.prog) w 25 5 (some ad) xs.length c 0 0 undBytes
    go_enter Tryd.func48, Tryd.ntmps48
    have ho : Own (w.alloc (.cells (ints .u8 []).toArray 5)) w.heap.size 5 .u8 (.slice (some ⟨w.heap.size, 0, none⟩) ([] : List Int).length ([] : List Int).length) [] := Own.ofBlk (Blk.new w 5 (ints .u8 [])) (Nat.le_refl _) (by simp)
    go_wp2_with (at_builtin; refine append_list rfl (.tmp 5) (.tmp 6) 25 rfl w.heap.size 5 .u8 1 undBytes infoU8 _ [] rfl ho (some ad) xs.length c xs rfl rfl (by simp) (HR.out.alloc _) (by simp; omega) (by simp; omega) (by simp) ?_; intro v' w1 ho' hg')
    go_ret
    exact ⟨_, rfl, ho', ho.grown_below ((Below.refl _ _).alloc (Nat.le_refl _) _) hg' (by simp) (Nat.le_refl _)⟩
end Go.Proofs.YtpmmmbilfblcpaaDoor
