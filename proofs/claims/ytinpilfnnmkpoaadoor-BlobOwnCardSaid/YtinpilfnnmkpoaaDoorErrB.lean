/- The numbers of api's errors. -/
import Derived.Test.YtinpilfnnmkpoaaDoorErrA
import Derived.Great.BuildSlice
namespace Go.Proofs.YtinpilfnnmkpoaaDoor
open Go.RowKit Go.Cour
/-- All of them, in order. -/
def errL (P : Nat → Addr) : List Value := [errV (P 0), errV (P 1), errV (P 2), errV (P 3), errV (P 4), errV (P 5), errV (P 6), errV (P 7), errV (P 8), errV (P 9), errV (P 10), errV (P 11), errV (P 12), errV (P 13), errV (P 14), errV (P 15), errV (P 16), errV (P 17), errV (P 18)]
theorem errL_get (P : Nat → Addr) (i : Nat) (h : i < 19) : (errL P)[i]? = some (errV (P i)) := by
  have h1 : i = 0 ∨ i = 1 ∨ i = 2 ∨ i = 3 ∨ i = 4 ∨ i = 5 ∨ i = 6 ∨ i = 7 ∨ i = 8 ∨ i = 9 ∨ i = 10 ∨ i = 11 ∨ i = 12 ∨ i = 13 ∨ i = 14 ∨ i = 15 ∨ i = 16 ∨ i = 17 ∨ i = 18 := by omega
  rcases h1 with rfl | rfl | rfl | rfl | rfl | rfl | rfl | rfl | rfl | rfl | rfl | rfl | rfl | rfl | rfl | rfl | rfl | rfl | rfl <;> rfl
theorem errL_cells (P : Nat → Addr) : ∀ u ∈ errL P, u.cells = #[u] := by
  intro u hu
  obtain ⟨i, hi⟩ := List.getElem?_of_mem hu
  have hl : i < 19 := by
    have := (List.getElem?_eq_some_iff.1 hi).1
    simpa [errL] using this
  rw [errL_get P i hl] at hi
  injection hi with hi
  subst hi
  rfl
theorem undLErr : Tryd.prog.underlying 95 = some (.slice 27) := by kernel_rfl
theorem sizeErr : (Tryd.prog.info? 27).map (·.size) = some 1 := by kernel_rfl
theorem zeroErr : ((Tryd.prog.info? 27).bind (·.zero)).isSome = true := by kernel_rfl
/-- A slice literal of values of one cell each. -/
theorem literal_vals {P : Program} {ops : Array Oper} {rest : List Oper} {o : Oper} {a : Act} {w : World} {Q : Exit → Act → World → Prop} (hw : Region.wanted o (yielded ops a.tmps) = true) (t e : TypeId) (len : Nat) (parts : Array (Nat × Operand)) (ho : o.op = .buildSlice t len parts)
    (us : List Value) (hparts : (parts.map fun (i, x) => (i, a.eval x)).toList = (us.zipIdx 0).map fun x => (x.2, x.1)) (h1 : ∀ u ∈ us, u.cells = #[u])
    (ht : P.underlying t = some (.slice e)) (hsz : (P.info? e).map (·.size) = some 1) (hz : ((P.info? e).bind (·.zero)).isSome = true) (hlen : len = us.length) (hpos : 0 < len) (hsmall : len ≤ 2 ^ 24)
    (h : ∀ (g : Nat) (w' : World), w.heap.size = g → Blk w' g e us → Below w.heap.size w w' → w'.heap.size = g + 1 → wpList P ops Q rest (a.put o.dst (.slice (some ⟨g, 0, none⟩) len len)) w') :
    wpList P ops Q (o :: rest) a w := by
  have h2 := h w.heap.size _ rfl (Blk.new w e us) ((Below.refl _ _).alloc (Nat.le_refl _) _) (by simp)
  cases hie : P.info? e with
  | none => simp [hie] at hsz
  | some ie =>
    simp only [hie, Option.map_some, Option.some.injEq, Option.bind_some] at hsz hz
    obtain ⟨z, hzz⟩ := Option.isSome_iff_exists.1 hz
    refine wpList_step fun K hK => ?_
    rw [if_pos hw]
    refine wp_buildSlice t e len _ ho us.toArray ie z ht hie hzz (by rw [hsz]; omega) (by rw [hsz]; omega) ?_ (hK _ _ h2)
    rw [hparts, hsz]
    exact Great.fill_flat us _ h1 (by simp [hlen])
set_option maxHeartbeats 1000000 in
set_option maxRecDepth 100000 in
theorem sentinels_calls {w : World} {P : Nat → Addr} (h : Errs w P) :
    Calls Tryd.prog 50 #[] w fun e w' => ∃ g, e = .returned (.slice (some ⟨g, 0, none⟩) 19 19) ∧ w.heap.size ≤ g ∧ Blk w' g 27 (errL P) ∧ Below w.heap.size w w' := by
  have e0 := h.cell 0 (by omega)
  have e1 := h.cell 1 (by omega)
  have e2 := h.cell 2 (by omega)
  have e3 := h.cell 3 (by omega)
  have e4 := h.cell 4 (by omega)
  have e5 := h.cell 5 (by omega)
  have e6 := h.cell 6 (by omega)
  have e7 := h.cell 7 (by omega)
  have e8 := h.cell 8 (by omega)
  have e9 := h.cell 9 (by omega)
  have e10 := h.cell 10 (by omega)
  have e11 := h.cell 11 (by omega)
  have e12 := h.cell 12 (by omega)
  have e13 := h.cell 13 (by omega)
  have e14 := h.cell 14 (by omega)
  have e15 := h.cell 15 (by omega)
  have e16 := h.cell 16 (by omega)
  have e17 := h.cell 17 (by omega)
  have e18 := h.cell 18 (by omega)
  simp only [globs, List.getD_cons_zero, List.getD_cons_succ] at e0 e1 e2 e3 e4 e5 e6 e7 e8 e9 e10 e11 e12 e13 e14 e15 e16 e17 e18
  go_enter Tryd.func50, Tryd.ntmps50
  go_wp2_with (first
    | (refine literal_vals rfl 95 27 19 _ rfl (errL P) (by kernel_rfl) (errL_cells P) undLErr sizeErr zeroErr rfl (by omega) (by omega) ?_; intro g w1 hg hb hB hs)
    | fail)
  go_ret
  exact ⟨g, rfl, by omega, hb, hB⟩
set_option maxHeartbeats 1000000 in
set_option maxRecDepth 100000 in
theorem sentinel_calls {w : World} {P : Nat → Addr} (h : Errs w P) (k : Nat) (hk : k < 19) :
    Calls Tryd.prog 47 #[errV (P k)] w fun e w' => e = .returned (.int .i64 (101 + (k : Int))) ∧ Below w.heap.size w w' := by
  go_enter Tryd.func47, Tryd.ntmps47
  go_wp2_with (first
    | (go_at_call 50; refine (sentinels_calls h).mono ?_; rintro e w1 ⟨g, rfl, hg, hb, hB⟩)
    | fail)
  go_loopg [4] (k + 1) (fun kq v4 wr => ∃ i : Nat, i ≤ k ∧ v4 = .int .i64 i ∧ Hd (kq + i = k + 1) ∧ wr = w1)
  case atStart => exact ⟨0, by omega, rfl, hid (by omega), rfl⟩
  case round =>
    obtain ⟨i, hi, rfl, hq, rfl⟩ := hrel
    have hi19 : (i : Int) < 19 := by omega
    have hc : wr.cell? ⟨g, i, none⟩ = some (errV (P i)) := by rw [hb.cell, errL_get P i (by omega)]
    by_cases hik : k = i
    · subst hik
      have hd : decide (k = k) = true := decide_eq_true rfl
      have hd := hid hd
      go_wp2_with (first
        | (go_at_call 51; refine (alike_calls (h.below hB) k k hk hk).mono ?_; rintro e w2 ⟨he, hw2⟩; rw [hd.out] at he; subst he; subst w2)
        | fail)
      go_ret
      exact ⟨rfl, hB⟩
    · have hd := hid (decide_eq_false hik)
      have hik2 := hid hik
      clear hik
      go_wp2_with (first
        | (go_at_call 51; refine (alike_calls (h.below hB) k i hk (by omega)).mono ?_; rintro e w2 ⟨he, hw2⟩; rw [hd.out] at he; subst he; subst w2)
        | fail)
      go_roundg (gk - 1)
      case measure => have := hq.out; omega
      case rel => exact ⟨i + 1, by have := hik2.out; omega, by go_num, hid (by have := hq.out; omega), rfl⟩
end Go.Proofs.YtinpilfnnmkpoaaDoor
