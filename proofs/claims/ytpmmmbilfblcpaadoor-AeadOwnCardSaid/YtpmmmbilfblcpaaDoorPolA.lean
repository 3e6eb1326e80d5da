/- A tag's arithmetic: carry. -/
import Derived.Test.YtpmmmbilfblcpaaDoorProg
import Derived.Test.YtpmmmbilfblcpaaDoorBase
import Derived.StillTailTactics
import Derived.Deep.QuietTactic
import Derived.BigQuiet
import Derived.Laws.Closers25b
import Derived.Laws.BitsLemmas
namespace Go.Proofs.YtpmmmbilfblcpaaDoor
open Go.RowKit Go.Cour
theorem foldl_succ' {α : Type} (f : α → Nat → α) (s : α) (n : Nat) : (List.range (n + 1)).foldl f s = f ((List.range n).foldl f s) n := by
  rw [List.range_succ, List.foldl_append]; rfl
theorem info73 : (Tryd.prog.info? 73).map (·.size) = some 5 := by kernel_rfl
theorem arr73 : Tryd.prog.underlying 73 = some (.array 5 72) := by kernel_rfl
/-- The lowest 26 bits. -/
def low26 (x : Int) : Int := bits .and .u64 x 67108863
theorem low26_eq (x : Int) (h0 : 0 ≤ x) (h1 : x < 18446744073709551616) : low26 x = x % 67108864 :=
  bits_mask .u64 64 (by decide) (fun n h0 h1 => by rw [IntKind.wrap_u64]; omega) 26 (by decide) x h0 (by simpa using h1)
/-- A number of 64 bits. -/
def u64 (x : Int) : Int := IntKind.u64.wrap x
theorem u64_eq (x : Int) : u64 x = x % 18446744073709551616 := by unfold u64; rw [IntKind.wrap_u64]
/-- One part: what was carried is taken in, what is too much is carried on. -/
def carry1 (s : List Int × Int) (i : Nat) : List Int × Int := ((s.1.set i (u64 (rd s.1 i + s.2))).set i (low26 (u64 (rd s.1 i + s.2))), u64 (rd s.1 i + s.2) / 67108864)
def carryTo (xs : List Int) (n : Nat) : List Int × Int := (List.range n).foldl carry1 (xs, 0)
def carryRound (xs : List Int) : List Int := (carryTo xs 5).1.set 0 (u64 (rd (carryTo xs 5).1 0 + u64 (5 * (carryTo xs 5).2)))
def carryN (xs : List Int) (n : Nat) : List Int := (List.range n).foldl (fun s _ => carryRound s) xs
theorem carryTo_succ (xs : List Int) (n : Nat) : carryTo xs (n + 1) = carry1 (carryTo xs n) n := foldl_succ' _ _ _
theorem carryTo_zero (xs : List Int) : carryTo xs 0 = (xs, 0) := rfl
theorem carryN_succ (xs : List Int) (n : Nat) : carryN xs (n + 1) = carryRound (carryN xs n) := foldl_succ' _ _ _
theorem carryN_zero (xs : List Int) : carryN xs 0 = xs := rfl
theorem carryTo_length (xs : List Int) : ∀ n, (carryTo xs n).1.length = xs.length
  | 0 => rfl
  | n + 1 => by rw [carryTo_succ]; simp only [carry1, List.length_set]; exact carryTo_length xs n
theorem carryRound_length (xs : List Int) : (carryRound xs).length = xs.length := by
  simp only [carryRound, List.length_set]; exact carryTo_length xs 5
theorem carryN_length (xs : List Int) : ∀ n, (carryN xs n).length = xs.length
  | 0 => rfl
  | n + 1 => by rw [carryN_succ, carryRound_length]; exact carryN_length xs n
/-- What the blocks of a call of carry hold. -/
structure CS (w wr : World) (xs : List Int) : Prop where
  a : Blk wr w.heap.size 73 (ints .u64 xs)
  r : Blk wr (w.heap.size + 1) 73 (ints .u64 (List.replicate 5 0))
  below : Below w.heap.size w wr
theorem CS.set {w wr : World} {xs : List Int} (h : CS w wr xs) (i : Nat) (x : Int) : CS w (wr.setCell ⟨w.heap.size, i, none⟩ (.int .u64 x)) (xs.set i x) :=
  ⟨h.a.setI i x, h.r.setOther (by simp) _, h.below.setCell (by simp) _⟩
set_option maxHeartbeats 4000000 in
set_option maxRecDepth 100000 in
theorem carry_calls (xs : List Int) (w : World) (hx : xs.length = 5) :
    Calls Tryd.prog 58 #[.agg (ints .u64 xs).toArray] w fun e w' => e = .returned (.agg (ints .u64 (carryN xs 2)).toArray) ∧ Below w.heap.size w w' := by
  have HX := hid hx
  clear hx
  go_enter Tryd.func58, Tryd.ntmps58
  go_wp2_with fail
  go_loopg [5] 2 (fun kq v5 wr => ∃ i : Nat, i ≤ 2 ∧ v5 = .int .i64 i ∧ Hd (kq + i = 2) ∧ CS w wr (carryN xs i))
  case atStart =>
    refine ⟨0, by omega, rfl, hid rfl, ?_, ?_, ?_⟩
    · rw [carryN_zero]; exact (Blk.new w 73 (ints .u64 xs)).alloc _
    · exact Blk.new' (w.alloc _) 73 (ints .u64 (List.replicate 5 0)) _ (by simp)
    · exact ((Below.refl _ _).alloc (Nat.le_refl _) _).alloc (by simp) _
  case round =>
    obtain ⟨i, hi, rfl, hq, hS⟩ := hrel
    by_cases hlt : i < 2
    · have hd1 : decide ((i : Int) < 2) = true := by simp; omega
      go_wp2_with fail
      obtain ⟨wo, rfl⟩ : ∃ wo : World, wo = wr := ⟨_, rfl⟩
      obtain ⟨gk1, hgk⟩ : ∃ g : Nat, Hd (g = gk) := ⟨gk, hid rfl⟩
      have hq1 : Hd (gk1 + i = 2) := hid (by rw [hgk.out]; exact hq.out)
      obtain ⟨X, hX⟩ : ∃ X, Hd (X = carryN xs i) := ⟨_, hid rfl⟩
      have hXl : Hd (X.length = 5) := hid (by rw [hX.out, carryN_length]; exact HX.out)
      rw [← hX.out] at hS
      go_loopg [3, 7] 5 (fun kq v3 v7 wr => ∃ j : Nat, j ≤ 5 ∧ v7 = .int .i64 j ∧ v3 = .int .u64 (carryTo X j).2 ∧ Hd (kq + j = 5) ∧ CS w wr (carryTo X j).1)
      case atStart => exact ⟨0, by omega, rfl, rfl, hid rfl, hS⟩
      case round =>
        clear hS
        obtain ⟨j, hj, rfl, rfl, hq2, hS⟩ := hrel
        obtain ⟨Y, o, hY⟩ : ∃ Y o, Hd ((carryTo X j) = (Y, o)) := ⟨_, _, hid rfl⟩
        rw [hY.out] at hS ⊢
        dsimp only at hS ⊢
        have hYl : Y.length = 5 := by have := carryTo_length X j; rw [hY.out] at this; rw [← hXl.out]; exact this
        by_cases hjlt : j < 5
        · have cj := hS.a.cellI j (by omega)
          have fj := hS.a.frozen j
          have cj2 := (hS.set j (u64 (rd Y j + o))).a.cellI j (by simp; omega)
          have fj2 := (hS.set j (u64 (rd Y j + o))).a.frozen j
          rw [rd_set', if_pos ⟨rfl, by omega⟩] at cj2
          have HYl := hid hYl
          clear hYl
          go_wp2_with fail
          go_roundg (gk - 1)
          case measure => have := hq2.out; omega
          case rel =>
            refine ⟨j + 1, by omega, by go_num, ?_, hid (by have := hq2.out; omega), ?_⟩
            · rw [carryTo_succ, hY.out]; rfl
            · rw [carryTo_succ, hY.out]; exact (hS.set j _).set j _
        · have hj5 : (j : Int) = 5 := by omega
          rw [hj5]
          obtain rfl : j = 5 := by omega
          have c0 := hS.a.cellI 0 (by omega)
          have f0 := hS.a.frozen 0
          have HYl := hid hYl
          clear hYl hjlt hj5 hj
          go_wp2_with fail
          go_roundg (gk1 - 1)
          case measure => have := hq1.out; have := hgk.out; omega
          case rel =>
            refine ⟨i + 1, by omega, by go_num, hid (by have := hq1.out; omega), ?_⟩
            have he : carryN xs (i + 1) = Y.set 0 (u64 (rd Y 0 + u64 (5 * o))) := by
              rw [carryN_succ, ← hX.out, carryRound, hY.out]
            rw [he]
            exact hS.set 0 _
    · obtain rfl : i = 2 := by omega
      have hl5 : (ints .u64 (carryN xs 2)).length = 5 := by rw [ints_length, carryN_length]; exact HX.out
      have HL := hid hl5
      clear hl5 hi hlt
      go_wp2_with (first
        | (refine load_blk rfl 73 _ rfl w.heap.size rfl 73 _ hS.a 5 72 arr73 HL.out info73 ?_)
        | (refine store_blk rfl 73 _ _ rfl (w.heap.size + 1) _ rfl rfl 73 _ hS.r 5 info73 HL.out (by simp) (ints_one _ _) ?_))
      refine bodyPost_ret (results_blk rfl _ _ (w.heap.size + 1) 73 _ 5 72 rfl (hS.r.setRow _) arr73 HL.out info73) rfl ?_
      exact ⟨rfl, below_setRow hS.below (by omega) _⟩
end Go.Proofs.YtpmmmbilfblcpaaDoor
