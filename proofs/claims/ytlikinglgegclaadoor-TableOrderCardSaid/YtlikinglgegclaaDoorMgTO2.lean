import Derived.Great.BuildSlice
import Derived.Test.YtlikinglgegclaaDoorProg
import Derived.Test.YtlikinglgegclaaDoorMgTO0
import Derived.Test.YtlikinglgegclaaDoorMgTO1
set_option linter.unusedSimpArgs false
set_option linter.unusedVariables false
open List (getElem_toArray getElem_cons_zero getElem_cons_succ)
/- Laws of memory whose worlds stay letters: a new variable, a slice literal, a struct read whole. -/
namespace Go.Cour
open Go.RowKit
section
variable {P : Program} {ops : Array Oper} {rest : List Oper} {o : Oper} {a : Act} {w : World} {Q : Exit → Act → World → Prop}
/-- A new variable; its block is the letter g, the world behind it the letter w'. -/
theorem alloc_blk (hgd : o.guard = none) (ty : TypeId) (ho : o.op = .alloc ty) (d : Option Tmp) (hd : o.dst = d) (cs : List Value)
    (hz : ((P.info? ty).bind (·.zero)).map (·.cells) = some cs.toArray)
    (h : ∀ (g : Nat) (w' : World), w.heap.size = g → Blk w' g ty cs → Below w.heap.size w w' → w'.heap.size = g + 1 → wpList P ops Q rest (a.put d (.pointer (some ⟨g, 0, none⟩))) w') :
    wpList P ops Q (o :: rest) a w := by
  subst hd
  have h1 := h w.heap.size (w.alloc (.cells cs.toArray ty)) rfl (Blk.new _ _ _) ((Below.refl _ _).alloc (Nat.le_refl _) _) (by simp)
  refine wpList_plain hgd fun K hK => ?_
  unfold Oper.wp execOp
  cases hi : P.info? ty with
  | none => simp [hi] at hz
  | some i =>
    cases hz0 : i.zero with
    | none => simp [hi, hz0] at hz
    | some z =>
      simp only [hi, hz0, Option.bind_some, Option.map_some, Option.some.injEq] at hz
      simp [ho, Instr.alloc, zeroValue, typeInfo, hi, hz0, newVar, newRow, hz]
      exact hK _ _ h1
/-- A struct read whole out of its block. -/
theorem load_str (hgd : o.guard = none) (ty : TypeId) (x : Operand) (ho : o.op = .load ty x)
    (g : Nat) (hx : a.eval x = .pointer (some ⟨g, 0, none⟩)) (t : TypeId) (cs : List Value) (hg : Blk w g t cs) (fs : _) (hu : P.underlying ty = some (.struct fs))
    (hi : (P.info? ty).map (·.size) = some cs.length)
    (h : wpList P ops Q rest (a.put o.dst (.agg cs.toArray)) w) : wpList P ops Q (o :: rest) a w :=
  wpList_load_row hgd ty x ho g hx t cs.toArray (0, 0) _ hg hu rfl (by rw [hi]; simp) h
end
/-- Two results: a struct that lies in a block, and a slot. -/
theorem results_str2 {P : Program} {fn : Func} {p q : Tmp} {ty : TypeId} (h : fn.results = #[.cell p ty, .tmp q]) (tmps : Array Value) (w : World) (g : Nat) (t : TypeId) (cs : List Value) (v : Value) (fs : _)
    (hp : tmps.getD p undef = .pointer (some ⟨g, 0, none⟩)) (hq : tmps.getD q undef = v) (hg : Blk w g t cs)
    (hu : P.underlying ty = some (.struct fs)) (hi : (P.info? ty).map (·.size) = some cs.length) :
    (results fn tmps).run P w = .ok (.tuple #[.agg cs.toArray, v]) w := by
  have hp' : tmps[p]?.getD undef = .pointer (some ⟨g, 0, none⟩) := by simpa using hp
  have hq' : tmps[q]?.getD undef = v := by simpa using hq
  simp [results, h, hp', hq', asAddr, run_loadVar_row w g t ty cs.toArray (0, 0) _ hg hu rfl (by rw [hi]; simp)]
theorem Own.setRowOther {w : World} {base : Nat} {e : TypeId} {k : IntKind} {v : Value} {xs : List Int} (h : Own w base e k v xs) {g : Nat} (ha : v.ownBlock ≠ some g) (cs : Array Value) : Own (w.setRow g cs) base e k v xs := by
  obtain ⟨h1, h2⟩ := h
  refine ⟨h1, ?_⟩
  rcases h2 with h2 | ⟨g', cap, cur, rfl, hg, hh, r⟩
  · exact .inl h2
  · exact .inr ⟨g', cap, cur, rfl, hg, (setRow_other w g g' cs (fun he => ha (by simp [Value.ownBlock, he]))).trans hh, r⟩
end Go.Cour
/- Key, of a number: its 32 bytes, each told. -/
namespace Go.Proofs.YtlikinglgegclaaDoor
open Go.RowKit Go.Cour
theorem info_key : (Tryd.prog.info? 27).map (·.size) = some 32 := by kernel_rfl
theorem arr_key : Tryd.prog.underlying 27 = some (.array 32 5) := by kernel_rfl
def keyByte (n : Int) (i : Nat) : Int := (n / 2 ^ (i % 8 * 4) + 17 * (i : Int)) % 256
def keyTo (n : Int) (i : Nat) : List Int := (List.range i).map (keyByte n) ++ List.replicate (32 - i) 0
def keyOf (n : Int) : List Int := (List.range 32).map (keyByte n)
theorem keyTo_length (n : Int) (i : Nat) (h : i ≤ 32) : (keyTo n i).length = 32 := by simp [keyTo]; omega
theorem keyOf_length (n : Int) : (keyOf n).length = 32 := by simp [keyOf]
theorem keyTo_all (n : Int) : keyTo n 32 = keyOf n := by simp [keyTo, keyOf]
theorem keyTo_set (n : Int) (i : Nat) (h : i < 32) : (keyTo n i).set i (keyByte n i) = keyTo n (i + 1) := by
  unfold keyTo
  have h1 : ((List.range i).map (keyByte n)).length = i := by simp
  rw [List.set_append_right _ _ (by omega), h1, Nat.sub_self, List.range_succ, List.map_append, List.append_assoc]
  have h2 : 32 - i = (32 - (i + 1)) + 1 := by omega
  rw [h2, List.replicate_succ]
  rfl
theorem keyByte_ok (n : Int) (i : Nat) : 0 ≤ keyByte n i ∧ keyByte n i < 256 := ⟨Int.emod_nonneg _ (by decide), Int.emod_lt_of_pos _ (by decide)⟩
theorem keyOf_ok (n : Int) : bytesOk (keyOf n) := by
  intro i
  unfold rd keyOf
  rw [List.getD_eq_getElem?_getD, List.getElem?_map]
  cases hx : (List.range 32)[i]? with
  | none => simp
  | some j => exact keyByte_ok n j
set_option maxHeartbeats 1000000 in
set_option maxRecDepth 100000 in
theorem keyC_calls (n : Int) (w : World) :
    Calls Tryd.prog 9 #[.int .i64 n] w fun e w' => e = .returned (.agg (ints .u8 (keyOf n)).toArray) ∧ Below w.heap.size w w' := by
  go_enter Tryd.func9, Tryd.ntmps9
  go_wp2
  go_loopg [4] 32 (fun kq v4 wr => ∃ i : Nat, i ≤ 32 ∧ v4 = .int .i64 i ∧ Hd (kq = 32 - i) ∧ Blk wr (w.heap.size + 1) 27 (ints .u8 (keyTo n i)) ∧ Blk wr w.heap.size 27 (ints .u8 (List.replicate 32 0)) ∧ Hd (Below w.heap.size w wr))
  case atStart =>
    refine ⟨0, by omega, rfl, hid rfl, ?_, ?_, hid ?_⟩
    · exact Blk.new' (w.alloc _) 27 (ints .u8 (List.replicate 32 0)) _ (by simp)
    · exact (Blk.new w 27 (ints .u8 (List.replicate 32 0))).alloc _
    · exact ((Below.refl _ _).alloc (Nat.le_refl _) _).alloc (by simp) _
  case round =>
    obtain ⟨i, hi, rfl, hk, h1, h0, hb⟩ := hrel
    have hl := hid (keyTo_length n i hi)
    by_cases hlt : i < 32
    · have hc := h1.cellI i (by rw [hl.out]; omega)
      have hf := h1.frozen i
      go_wp2
      go_roundg (gk - 1)
      case measure => have := hk.out; omega
      case rel =>
        refine ⟨i + 1, by omega, by go_num, hid ?_, ?_, h0.setOther (by simp) _, hid (hb.out.setCell (by simp) _)⟩
        · have := hk.out; omega
        · have h2 := h1.setI i (keyByte n i)
          rw [keyTo_set n i hlt] at h2
          exact h2
    · obtain rfl : i = 32 := by omega
      rw [keyTo_all] at h1
      have hl32 : (ints .u8 (keyOf n)).length = 32 := by simp [keyOf_length]
      go_wp2_with (first
        | (refine load_blk rfl 27 _ rfl (w.heap.size + 1) rfl 27 _ h1 32 5 arr_key hl32 info_key ?_)
        | (refine store_blk rfl 27 _ _ rfl w.heap.size _ rfl rfl 27 _ h0 32 info_key hl32 (by simp) (ints_one _ _) ?_))
      refine bodyPost_ret (results_blk rfl _ _ w.heap.size 27 _ 32 5 rfl (h0.setRow _) arr_key hl32 info_key) rfl ?_
      exact ⟨rfl, below_setRow hb.out (Nat.le_refl _) _⟩
end Go.Proofs.YtlikinglgegclaaDoor
