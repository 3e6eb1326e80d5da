/- A tag's arithmetic: a product. -/
import Derived.Test.YtpmmmbilfblcpaaDoorPolA
namespace Go.Proofs.YtpmmmbilfblcpaaDoor
open Go.RowKit Go.Cour
def term (a b : List Int) (i j : Nat) : Int := if 5 ≤ i + j then u64 (u64 (rd a i * rd b j) * 5) else u64 (rd a i * rd b j)
def tinTo (a b : List Int) (i : Nat) (s : List Int) (n : Nat) : List Int := (List.range n).foldl (fun s j => s.set ((i + j) % 5) (u64 (rd s ((i + j) % 5) + term a b i j))) s
def toutTo (a b : List Int) (n : Nat) : List Int := (List.range n).foldl (fun s i => tinTo a b i s 5) (List.replicate 5 0)
def times (a b : List Int) : List Int := carryN (toutTo a b 5) 2
theorem tinTo_succ (a b : List Int) (i : Nat) (s : List Int) (n : Nat) : tinTo a b i s (n + 1) = (tinTo a b i s n).set ((i + n) % 5) (u64 (rd (tinTo a b i s n) ((i + n) % 5) + term a b i n)) := foldl_succ' _ _ _
theorem tinTo_zero (a b : List Int) (i : Nat) (s : List Int) : tinTo a b i s 0 = s := rfl
theorem toutTo_succ (a b : List Int) (n : Nat) : toutTo a b (n + 1) = tinTo a b n (toutTo a b n) 5 := foldl_succ' _ _ _
theorem toutTo_zero (a b : List Int) : toutTo a b 0 = List.replicate 5 0 := rfl
theorem tinTo_length (a b : List Int) (i : Nat) (s : List Int) : ∀ n, (tinTo a b i s n).length = s.length
  | 0 => rfl
  | n + 1 => by rw [tinTo_succ, List.length_set]; exact tinTo_length a b i s n
theorem toutTo_length (a b : List Int) : ∀ n, (toutTo a b n).length = 5
  | 0 => by simp [toutTo_zero]
  | n + 1 => by rw [toutTo_succ, tinTo_length]; exact toutTo_length a b n
theorem times_length (a b : List Int) : (times a b).length = 5 := by rw [times, carryN_length]; exact toutTo_length a b 5
/-- What the blocks of a call of times hold. -/
structure TS (w wr : World) (a b s : List Int) : Prop where
  a : Blk wr w.heap.size 73 (ints .u64 a)
  b : Blk wr (w.heap.size + 1) 73 (ints .u64 b)
  r : Blk wr (w.heap.size + 1 + 1) 73 (ints .u64 (List.replicate 5 0))
  s : Blk wr (w.heap.size + 1 + 1 + 1) 73 (ints .u64 s)
  below : Below w.heap.size w wr
theorem TS.set {w wr : World} {a b s : List Int} (h : TS w wr a b s) (i : Nat) (x : Int) : TS w (wr.setCell ⟨w.heap.size + 1 + 1 + 1, i, none⟩ (.int .u64 x)) a b (s.set i x) :=
  ⟨h.a.setOther (by simp; try omega) _, h.b.setOther (by simp; try omega) _, h.r.setOther (by simp; try omega) _, h.s.setI i x, h.below.setCell (by simp; try omega) _⟩
theorem TS.drewN {w wr : World} {a b s : List Int} (h : TS w wr a b s) (n : Nat) : TS w (wr.drewN n) a b s := ⟨h.a.drewN n, h.b.drewN n, h.r.drewN n, h.s.drewN n, below_drewN h.below n⟩
set_option maxHeartbeats 4000000 in
set_option maxRecDepth 100000 in
theorem times_calls (a b : List Int) (w : World) (ha : a.length = 5) (hb : b.length = 5) :
    Calls Tryd.prog 45 #[.agg (ints .u64 a).toArray, .agg (ints .u64 b).toArray] w fun e w' => e = .returned (.agg (ints .u64 (times a b)).toArray) ∧ Below w.heap.size w w' := by
  have HA := hid ha
  have HB := hid hb
  clear ha hb
  go_enter Tryd.func45, Tryd.ntmps45
  go_wp2_with fail
  go_loopg [9] 5 (fun kq v9 wr => ∃ i : Nat, i ≤ 5 ∧ v9 = .int .i64 i ∧ Hd (kq + i = 5) ∧ TS w wr a b (toutTo a b i))
  case atStart =>
    refine ⟨0, by omega, rfl, hid rfl, ?_, ?_, ?_, ?_, ?_⟩
    · exact (((Blk.new w 73 (ints .u64 a)).alloc _).alloc _).alloc _
    · exact ((Blk.new' (w.alloc _) 73 (ints .u64 b) _ (by simp)).alloc _).alloc _
    · exact (Blk.new' ((w.alloc _).alloc _) 73 (ints .u64 (List.replicate 5 0)) _ (by simp)).alloc _
    · exact Blk.new' (((w.alloc _).alloc _).alloc _) 73 (ints .u64 (List.replicate 5 0)) _ (by simp)
    · exact ((((Below.refl _ _).alloc (Nat.le_refl _) _).alloc (by simp) _).alloc (by simp; omega) _).alloc (by simp; omega) _
  case round =>
    obtain ⟨i, hi, rfl, hq, hS⟩ := hrel
    by_cases hlt : i < 5
    · have hd1 : decide ((i : Int) < 5) = true := by simp; omega
      go_wp2_with fail
      obtain ⟨wo, rfl⟩ : ∃ wo : World, wo = wr := ⟨_, rfl⟩
      obtain ⟨gk1, hgk⟩ : ∃ g : Nat, Hd (g = gk) := ⟨gk, hid rfl⟩
      have hq1 : Hd (gk1 + i = 5) := hid (by rw [hgk.out]; exact hq.out)
      obtain ⟨X, hX⟩ : ∃ X, Hd (X = toutTo a b i) := ⟨_, hid rfl⟩
      have hXl : Hd (X.length = 5) := hid (by rw [hX.out, toutTo_length])
      rw [← hX.out] at hS
      go_loopg [12] 5 (fun kq v12 wr => ∃ j : Nat, j ≤ 5 ∧ v12 = .int .i64 j ∧ Hd (kq + j = 5) ∧ TS w wr a b (tinTo a b i X j))
      case atStart => exact ⟨0, by omega, rfl, hid rfl, by rw [tinTo_zero]; exact hS⟩
      case round =>
        clear hS
        obtain ⟨j, hj, rfl, hq2, hS⟩ := hrel
        obtain ⟨Y, hY⟩ : ∃ Y, Hd (Y = tinTo a b i X j) := ⟨_, hid rfl⟩
        rw [← hY.out] at hS
        have hYl : Hd (Y.length = 5) := hid (by rw [hY.out, tinTo_length]; exact hXl.out)
        by_cases hjlt : j < 5
        · have ca := hS.a.cellI i (by have := HA.out; omega)
          have cb := hS.b.cellI j (by have := HB.out; omega)
          obtain ⟨m, hm, hm5⟩ : ∃ m : Nat, Hd (m = (i + j) % 5) ∧ m < 5 := ⟨_, hid rfl, by omega⟩
          have cs := hS.s.cellI m (by have := hYl.out; omega)
          have fs := hS.s.frozen m
          have a1 : (i : Int) < 5 := by omega
          have a2 : (j : Int) < 5 := by omega
          have a4 : ((i : Int) + (j : Int)) % 5 = (m : Int) := by have := hm.out; omega
          have a5 : (m : Int) < 5 := by omega
          by_cases hs : 5 ≤ i + j
          · have a6 : (5 : Int) ≤ (i : Int) + (j : Int) := by omega
            go_wp2_with fail
            go_quiet (fail)
            go_wp2_with fail
            go_roundg (gk - 1)
            case measure => have := hq2.out; omega
            case rel =>
              refine ⟨j + 1, by omega, by go_num, hid (by have := hq2.out; omega), ?_⟩
              rw [tinTo_succ, ← hY.out, ← hm.out, show term a b i j = u64 (u64 (rd a i * rd b j) * 5) from if_pos hs]
              exact (hS.drewN _).set m _
          · have a6 : ¬ (5 : Int) ≤ (i : Int) + (j : Int) := by omega
            go_wp2_with fail
            go_quiet (fail)
            go_wp2_with fail
            go_roundg (gk - 1)
            case measure => have := hq2.out; omega
            case rel =>
              refine ⟨j + 1, by omega, by go_num, hid (by have := hq2.out; omega), ?_⟩
              rw [tinTo_succ, ← hY.out, ← hm.out, show term a b i j = u64 (rd a i * rd b j) from if_neg hs]
              exact (hS.drewN _).set m _
        · have hj5 : (j : Int) = 5 := by omega
          rw [hj5]
          obtain rfl : j = 5 := by omega
          clear hjlt hj5 hj
          go_wp2_with fail
          go_roundg (gk1 - 1)
          case measure => have := hq1.out; have := hgk.out; omega
          case rel =>
            refine ⟨i + 1, by omega, by go_num, hid (by have := hq1.out; omega), ?_⟩
            rw [toutTo_succ, ← hX.out, ← hY.out]
            exact hS
    · obtain rfl : i = 5 := by omega
      have hl5 : (ints .u64 (toutTo a b 5)).length = 5 := by rw [ints_length, toutTo_length]
      have hl5' : (ints .u64 (times a b)).length = 5 := by rw [ints_length, times_length]
      have HL := hid hl5
      have HL' := hid hl5'
      clear hl5 hl5' hi hlt
      go_wp2_with (first
        | (refine load_blk rfl 73 _ rfl (w.heap.size + 1 + 1 + 1) rfl 73 _ hS.s 5 72 arr73 HL.out info73 ?_)
        | (go_at_call 58; refine (carry_calls (toutTo a b 5) _ (toutTo_length _ _ _)).mono ?_; rintro e wx ⟨rfl, hb⟩)
        | (refine store_blk rfl 73 _ _ rfl (w.heap.size + 1 + 1) _ rfl rfl 73 _ (hS.r.belowAll hb) 5 info73 HL'.out (by simp) (ints_one _ _) ?_))
      refine bodyPost_ret (results_blk rfl _ _ (w.heap.size + 1 + 1) 73 _ 5 72 rfl ((hS.r.belowAll hb).setRow _) arr73 HL'.out info73) rfl ?_
      exact ⟨rfl, below_setRow (below_then hS.below (by have := hS.s.lt; omega) hb) (by omega) _⟩
end Go.Proofs.YtpmmmbilfblcpaaDoor
