/- Key, of a number: its 32 bytes, each told. -/
import Derived.Test.YtinpilfnnmkpoaaDoorProg
import Derived.Test.YtinpilfnnmkpoaaDoorMem
import Derived.Test.YtinpilfnnmkpoaaDoorFile
namespace Go.Proofs.YtinpilfnnmkpoaaDoor
open Go.RowKit Go.Cour
theorem info_key : (Tryd.prog.info? 31).map (·.size) = some 32 := by kernel_rfl
theorem arr_key : Tryd.prog.underlying 31 = some (.array 32 5) := by kernel_rfl
def keyByte (n : Int) (i : Nat) : Int := (n / 2 ^ (i % 8 * 4) + 17 * (i : Int)) % 256
def keyTo (n : Int) (i : Nat) : List Int := (List.range i).map (keyByte n) ++ List.replicate (32 - i) 0
def keyOf (n : Int) : List Int := (List.range 32).map (keyByte n)
theorem keyTo_length (n : Int) (i : Nat) (h : i ≤ 32) : (keyTo n i).length = 32 := by simp [keyTo]; omega
theorem keyOf_length (n : Int) : (keyOf n).length = 32 := by simp [keyOf]
theorem keyTo_all (n : Int) : keyTo n 32 = keyOf n := by simp [keyTo, keyOf]
theorem keyTo_set (n : Int) (i : Nat) (h : i < 32) : (keyTo n i).set i (keyByte n i) = keyTo n (i + 1) := by
  unfold keyTo
  have h1 : ((List.range i).map (keyByte n)).length = i := by simp
  rw [List.set_append_right _ _ (by omega), h1, Nat.sub_self, List.range_succ, List.map_append, List.append_assoc]
  have h2 : 32 - i = (32 - (i + 1)) + 1 := by omega
  rw [h2, List.replicate_succ]
  rfl
theorem keyByte_ok (n : Int) (i : Nat) : 0 ≤ keyByte n i ∧ keyByte n i < 256 := ⟨Int.emod_nonneg _ (by decide), Int.emod_lt_of_pos _ (by decide)⟩
theorem keyOf_ok (n : Int) : bytesOk (keyOf n) := by
  intro i
  unfold rd keyOf
  rw [List.getD_eq_getElem?_getD, List.getElem?_map]
  cases hx : (List.range 32)[i]? with
  | none => simp
  | some j => exact keyByte_ok n j
theorem keyOf_first (n : Int) : (keyOf n)[0]? = some (n % 256) := by simp [keyOf, keyByte]
theorem keyOf_ne {a b : Int} (ha : 0 ≤ a ∧ a < 256) (hb : 0 ≤ b ∧ b < 256) (h : a ≠ b) : keyOf a ≠ keyOf b := fun he => by
  have h1 := keyOf_first a
  rw [he, keyOf_first b] at h1
  injection h1 with h1
  omega
set_option maxHeartbeats 1000000 in
set_option maxRecDepth 100000 in
theorem keyC_calls (n : Int) (w : World) :
    Calls Tryd.prog 12 #[.int .i64 n] w fun e w' => e = .returned (.agg (ints .u8 (keyOf n)).toArray) ∧ Below w.heap.size w w' := by
  go_enter Tryd.func12, Tryd.ntmps12
  go_wp2
  go_loopg [4] 32 (fun kq v4 wr => ∃ i : Nat, i ≤ 32 ∧ v4 = .int .i64 i ∧ Hd (kq = 32 - i) ∧ Blk wr (w.heap.size + 1) 31 (ints .u8 (keyTo n i)) ∧ Blk wr w.heap.size 31 (ints .u8 (List.replicate 32 0)) ∧ Hd (Below w.heap.size w wr))
  case atStart =>
    refine ⟨0, by omega, rfl, hid rfl, ?_, ?_, hid ?_⟩
    · exact Blk.new' (w.alloc _) 31 (ints .u8 (List.replicate 32 0)) _ (by simp)
    · exact (Blk.new w 31 (ints .u8 (List.replicate 32 0))).alloc _
    · exact ((Below.refl _ _).alloc (Nat.le_refl _) _).alloc (by simp) _
  case round =>
    obtain ⟨i, hi, rfl, hk, h1, h0, hb⟩ := hrel
    have hl := hid (keyTo_length n i hi)
    by_cases hlt : i < 32
    · have hc := h1.cellI i (by rw [hl.out]; omega)
      have hf := h1.frozen i
      go_wp2
      go_roundg (gk - 1)
      case measure => have := hk.out; omega
      case rel =>
        refine ⟨i + 1, by omega, by go_num, hid ?_, ?_, h0.setOther (by simp) _, hid (hb.out.setCell (by simp) _)⟩
        · have := hk.out; omega
        · have h2 := h1.setI i (keyByte n i)
          rw [keyTo_set n i hlt] at h2
          exact h2
    · obtain rfl : i = 32 := by omega
      rw [keyTo_all] at h1
      have hl32 : (ints .u8 (keyOf n)).length = 32 := by simp [keyOf_length]
      go_wp2_with (first
        | (refine load_blk rfl 31 _ rfl (w.heap.size + 1) rfl 31 _ h1 32 5 arr_key hl32 info_key ?_)
        | (refine store_blk rfl 31 _ _ rfl w.heap.size _ rfl rfl 31 _ h0 32 info_key hl32 (by simp) (ints_one _ _) ?_))
      refine bodyPost_ret (results_blk rfl _ _ w.heap.size 31 _ 32 5 rfl (h0.setRow _) arr_key hl32 info_key) rfl ?_
      exact ⟨rfl, below_setRow hb.out (Nat.le_refl _) _⟩
end Go.Proofs.YtinpilfnnmkpoaaDoor
