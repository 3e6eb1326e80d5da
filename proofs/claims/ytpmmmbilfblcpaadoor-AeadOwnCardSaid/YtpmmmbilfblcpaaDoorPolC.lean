/- A tag's arithmetic: bytes as parts. -/
import Derived.Test.YtpmmmbilfblcpaaDoorPolA
namespace Go.Proofs.YtpmmmbilfblcpaaDoor
open Go.RowKit Go.Cour
attribute [local go_sem] max2_int min2_int
/-- Bit i of bytes, where it stands in its part. -/
def pbit (b : List Int) (i : Nat) : Int := u64 (u64 (bits .and .u8 (rd b (i / 8) / 2 ^ (i % 8)) 1) * 2 ^ (i - 26 * min (i / 26) 4))
def partsTo (b : List Int) (n : Nat) : List Int := (List.range n).foldl (fun s i => s.set (min (i / 26) 4) (bits .or .u64 (rd s (min (i / 26) 4)) (pbit b i))) (List.replicate 5 0)
def parts (b : List Int) : List Int := partsTo b 136
theorem partsTo_succ (b : List Int) (n : Nat) : partsTo b (n + 1) = (partsTo b n).set (min (n / 26) 4) (bits .or .u64 (rd (partsTo b n) (min (n / 26) 4)) (pbit b n)) := foldl_succ' _ _ _
theorem partsTo_zero (b : List Int) : partsTo b 0 = List.replicate 5 0 := rfl
theorem partsTo_length (b : List Int) : ∀ n, (partsTo b n).length = 5
  | 0 => by simp [partsTo_zero]
  | n + 1 => by rw [partsTo_succ, List.length_set]; exact partsTo_length b n
theorem pbit_eq (b : List Int) (i m d r s : Nat) (hm : m = min (i / 26) 4) (hd : d = i / 8) (hr : r = i % 8) (hs : i = 26 * m + s) :
    pbit b i = u64 (u64 (bits .and .u8 (rd b d / 2 ^ r) 1) * 2 ^ s) := by
  have e : i - 26 * min (i / 26) 4 = s := by omega
  rw [pbit, e, ← hd, ← hr]
/-- What the blocks of a call of parts hold. -/
structure PS (w wr : World) (b s : List Int) : Prop where
  b : Blk wr w.heap.size 69 (ints .u8 b)
  r : Blk wr (w.heap.size + 1) 73 (ints .u64 (List.replicate 5 0))
  s : Blk wr (w.heap.size + 1 + 1) 73 (ints .u64 s)
  below : Below w.heap.size w wr
theorem PS.set {w wr : World} {b s : List Int} (h : PS w wr b s) (i : Nat) (x : Int) : PS w (wr.setCell ⟨w.heap.size + 1 + 1, i, none⟩ (.int .u64 x)).drew b (s.set i x) :=
  ⟨(h.b.setOther (by simp; try omega) _).drew, (h.r.setOther (by simp; try omega) _).drew, (h.s.setI i x).drew, (h.below.setCell (by simp; try omega) _).drew⟩
set_option maxHeartbeats 4000000 in
set_option maxRecDepth 100000 in
theorem parts_calls (b : List Int) (w : World) (hb : b.length = 17) :
    Calls Tryd.prog 44 #[.agg (ints .u8 b).toArray] w fun e w' => e = .returned (.agg (ints .u64 (parts b)).toArray) ∧ Below w.heap.size w w' := by
  have HB := hid hb
  clear hb
  go_enter Tryd.func44, Tryd.ntmps44
  go_wp2_with fail
  go_loopg [5] 136 (fun kq v5 wr => ∃ i : Nat, i ≤ 136 ∧ v5 = .int .i64 i ∧ Hd (kq + i = 136) ∧ PS w wr b (partsTo b i))
  case atStart =>
    refine ⟨0, by omega, rfl, hid rfl, ?_, ?_, ?_, ?_⟩
    · exact ((Blk.new w 69 (ints .u8 b)).alloc _).alloc _
    · exact (Blk.new' (w.alloc _) 73 (ints .u64 (List.replicate 5 0)) _ (by simp)).alloc _
    · exact Blk.new' ((w.alloc _).alloc _) 73 (ints .u64 (List.replicate 5 0)) _ (by simp)
    · exact (((Below.refl _ _).alloc (Nat.le_refl _) _).alloc (by simp) _).alloc (by simp; omega) _
  case round =>
    obtain ⟨i, hi, rfl, hq, hS⟩ := hrel
    by_cases hlt : i < 136
    · obtain ⟨m, hm, hm5⟩ : ∃ m : Nat, Hd (m = min (i / 26) 4) ∧ m < 5 := ⟨_, hid rfl, by omega⟩
      obtain ⟨q, hq26⟩ : ∃ q : Nat, Hd (q = i / 26) := ⟨_, hid rfl⟩
      obtain ⟨d, hd, hd17⟩ : ∃ d : Nat, Hd (d = i / 8) ∧ d < 17 := ⟨_, hid rfl, by omega⟩
      obtain ⟨r, hr, hr8⟩ : ∃ r : Nat, Hd (r = i % 8) ∧ r < 8 := ⟨_, hid rfl, by omega⟩
      obtain ⟨s, hs, hs64⟩ : ∃ s : Nat, Hd (i = 26 * m + s) ∧ s < 64 := ⟨i - 26 * m, hid (by have := hm.out; omega), by have := hm.out; omega⟩
      have cb := hS.b.cellI d (by have := HB.out; omega)
      have cs := hS.s.cellI m (by rw [partsTo_length]; exact hm5)
      have fs := hS.s.frozen m
      have he : Hd (partsTo b (i + 1) = (partsTo b i).set m (bits .or .u64 (rd (partsTo b i) m) (u64 (u64 (bits .and .u8 (rd b d / 2 ^ r) 1) * 2 ^ s)))) := hid (by
        rw [partsTo_succ, ← hm.out, pbit_eq b i m d r s hm.out hd.out hr.out hs.out])
      obtain ⟨Y, hY⟩ : ∃ Y, Hd (Y = partsTo b i) := ⟨_, hid rfl⟩
      rw [← hY.out] at hS cs he
      go_wp2_with fail
      have a1 : IntKind.i64.wrap ((i : Int) / 26) = (q : Int) := by
        have := hq26.out
        rw [IntWalk.i64_in _ (by omega)]
        omega
      have a2 : (if (4 : Int) < (q : Int) then (4 : Int) else (q : Int)) = (m : Int) := by
        have := hq26.out
        have := hm.out
        split <;> omega
      have a3 : IntKind.i64.wrap ((i : Int) / 8) = (d : Int) := by
        have := hd.out
        rw [IntWalk.i64_in _ (by omega)]
        omega
      have a4 : (i : Int).tmod 8 = (r : Int) := by
        have := hr.out
        rw [Int.tmod_eq_emod_of_nonneg (by omega)]
        omega
      have a5 : IntKind.i64.wrap (26 * (m : Int)) = 26 * (m : Int) := IntWalk.i64_in _ (by omega)
      have a6 : IntKind.i64.wrap ((i : Int) - 26 * (m : Int)) = (s : Int) := by
        have := hs.out
        rw [IntWalk.i64_in _ (by omega)]
        omega
      have a7 : (s : Int) ≤ 64 := by omega
      have a8 : (r : Int) ≤ 8 := by omega
      have a9 : (m : Int) < 5 := by omega
      have a10 : (d : Int) < 17 := by omega
      refine wp_region_still_tail 23 (by kernel_rfl) (by kernel_rfl) ?_
      simp only [List.take_succ_cons, List.take_zero, List.drop_succ_cons, List.drop_zero]
      change wpStill _ _ (World.drew _) (fun a' => wpList _ _ _ _ a' (World.drew _)) _ _
      repeat still_step
      refine wpStill_nil ?_
      change wpList _ _ _ _ _ _
      clear a1 a2 a3 a4 a5 a6 a7 a8 a9 a10
      go_wp2_with fail
      go_roundg (gk - 1)
      case measure => have := hq.out; omega
      case rel =>
        refine ⟨i + 1, by omega, by go_num, hid (by have := hq.out; omega), ?_⟩
        rw [he.out]
        exact hS.set m _
    · obtain rfl : i = 136 := by omega
      have hl5 : (ints .u64 (partsTo b 136)).length = 5 := by rw [ints_length, partsTo_length]
      have HL := hid hl5
      clear hl5 hi hlt
      go_wp2_with (first
        | (refine load_blk rfl 73 _ rfl (w.heap.size + 1 + 1) rfl 73 _ hS.s 5 72 arr73 HL.out info73 ?_)
        | (refine store_blk rfl 73 _ _ rfl (w.heap.size + 1) _ rfl rfl 73 _ hS.r 5 info73 HL.out (by simp) (ints_one _ _) ?_))
      refine bodyPost_ret (results_blk rfl _ _ (w.heap.size + 1) 73 _ 5 72 rfl (hS.r.setRow _) arr73 HL.out info73) rfl ?_
      exact ⟨rfl, below_setRow hS.below (by omega) _⟩
end Go.Proofs.YtpmmmbilfblcpaaDoor
