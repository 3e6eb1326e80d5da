/- courierref.Bytes: a copy. -/
import Derived.Test.YtinpilfnnmkpoaaDoorFile
import Derived.Test.YtinpilfnnmkpoaaDoorArr
namespace Go.Proofs.YtinpilfnnmkpoaaDoor
open Go.RowKit Go.Cour
theorem made_ints (n : Nat) : madeCells #[.int .u8 0] n = (ints .u8 (List.replicate n 0)).toArray := by
  apply Array.toList_inj.1
  rw [toList_madeCells_one]; simp [ints]
theorem make_cap {P : Program} (t e : TypeId) (z : Value) (bytes : Nat) (ht : P.underlying t = some (.slice e)) (hinfo : (P.info? e).map (fun i => (i.zero, i.size, i.bytes)) = some (some z, 1, bytes)) (hz1 : z.cells = #[z])
    (kl kc : IntKind) (n : Nat) (hbytes : bytes * n ≤ 281474976710656) (h63 : n ≤ 9223372036854775807) (w : World) :
    (Instr.makeSlice t (.int kl 0) (.int kc (n : Int))).run P w = .ok (.slice (some ⟨w.heap.size, 0, none⟩) 0 n) (w.alloc (.cells (madeCells #[z] n) e)) := by
  obtain ⟨i, hi, hzz⟩ := Option.map_eq_some_iff.1 hinfo
  simp only [Prod.mk.injEq] at hzz
  obtain ⟨hz, hs, hb⟩ := hzz
  have hb' : (i.bytes : Int) * (n : Int) ≤ 281474976710656 := by
    have h : ((i.bytes * n : Nat) : Int) ≤ 281474976710656 := by rw [hb]; omega
    rwa [Int.natCast_mul] at h
  have hr := run_make (P := P) w t e i z ht hi hz kl kc 0 n (Int.le_refl _) (by omega) hb' (by omega)
  simp only [Int.toNat_natCast, hs, Nat.mul_one, hz1] at hr
  exact hr
set_option maxHeartbeats 1000000 in
set_option maxRecDepth 100000 in
theorem bytes_calls (xs : List Int) (A : Option Addr) (c m : Nat) (w : World) (hm : m = xs.length) (hr : Rd w A .u8 xs) (hl : m ≤ 1000000) :
    Calls Tryd.prog 23 #[.slice A m c] w fun e w' => ∃ v, e = .returned v ∧ Own w' w.heap.size 5 .u8 v xs ∧ Below w.heap.size w w' := by
  have HM := hid hm
  have HR := hid hr
  clear hm hr
  have hmk := make_cap (P := Tryd.prog) 41 5 (.int .u8 0) 1 undBytes infoU8 rfl .i64 .i64 m (by omega) (by omega)
  go_enter Tryd.func23, Tryd.ntmps23
  go_wp2_with fail
  clear hmk
  have h0 : Own (w.alloc (.cells (madeCells #[.int .u8 0] m) 5)) w.heap.size 5 .u8 (.slice (some ⟨w.heap.size, 0, none⟩) 0 m) [] :=
    ⟨by simp [ints], .inr ⟨w.heap.size, m, _, rfl, Nat.le_refl _, heap_alloc_new w _, Nat.zero_le _, by unfold maxLen; omega, by rw [made_ints]; simp, by simp [ints]⟩⟩
  have hB0 : Below w.heap.size w (w.alloc (.cells (madeCells #[.int .u8 0] m) 5)) := (Below.refl _ _).alloc (Nat.le_refl _) _
  generalize w.alloc (.cells (madeCells #[.int .u8 0] m) 5) = w1 at *
  go_loopg [3, 4] (m + 1) (fun kq v3 v4 wr => ∃ i : Nat, i ≤ m ∧ v4 = .int .i64 i ∧ Hd (kq + i = m + 1) ∧ Own wr w.heap.size 5 .u8 v3 (xs.take i) ∧ Below w.heap.size w wr)
  case atStart => exact ⟨0, by omega, rfl, hid (by omega), h0, hB0⟩
  case round =>
    clear h0 hB0
    obtain ⟨i, hi, rfl, hq, ho, hB⟩ := hrel
    obtain ⟨ts, hts⟩ : ∃ ts, Hd (xs.take i = ts) := ⟨_, ⟨rfl⟩⟩
    rw [hts.out] at ho
    have htl : Hd (ts.length = i) := hid (by rw [← hts.out, List.length_take, ← HM.out]; omega)
    by_cases hlt : i < m
    · obtain ⟨g, o, rfl⟩ := HR.out.at (by rw [← HM.out]; omega)
      have cx := (HR.out.below hB).cellAt i (by rw [← HM.out]; omega)
      have a1 : (i : Int) < m := by omega
      obtain ⟨x, hx⟩ : ∃ x, Hd (x = rd xs i) := ⟨_, hid rfl⟩
      rw [← hx.out] at cx
      have hts1 : Hd (ts ++ [x] = xs.take (i + 1)) := hid (by
        rw [← hts.out, hx.out, List.take_add_one]
        congr 1
        have hlx : i < xs.length := by rw [← HM.out]; exact hlt
        rw [List.getElem?_eq_getElem hlx]
        simp [rd, hlx])
      go_wp2_with (first
        | (at_builtin; refine append_one rfl (.tmp 14) (.tmp 19) 41 rfl w.heap.size 5 .u8 1 undBytes infoU8 _ ts rfl ho x rfl (by rw [htl.out]; omega) (by rw [htl.out]; omega) hB.size ?_; intro v' w2 ho' hg'; rw [hts1.out] at ho')
        | fail)
      go_roundg (gk - 1)
      case measure => have := hq.out; omega
      case rel => exact ⟨i + 1, by omega, by go_num, hid (by have := hq.out; omega), ho', ho.grown_below hB hg' hB.size (Nat.le_refl _)⟩
    · obtain rfl : i = m := by omega
      have hte : Hd (ts = xs) := hid (by rw [← hts.out, List.take_of_length_le (by rw [← HM.out]; omega)])
      go_wp2_with fail
      go_ret
      rw [hte.out] at ho
      exact ⟨_, rfl, ho, hB⟩
end Go.Proofs.YtinpilfnnmkpoaaDoor
