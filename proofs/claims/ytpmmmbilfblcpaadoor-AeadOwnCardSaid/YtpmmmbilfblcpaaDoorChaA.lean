/- The stream: a word, a turn, a quarter of a round. -/
import Derived.Test.YtpmmmbilfblcpaaDoorProg
import Derived.Test.YtpmmmbilfblcpaaDoorBase
import Derived.StillTailTactics
import Derived.Deep.QuietTactic
import Derived.BigQuiet
import Derived.Laws.Closers25b
namespace Go.Proofs.YtpmmmbilfblcpaaDoor
open Go.RowKit Go.Cour
/-- x turned to the left by k. -/
def rotl (k : Nat) (x : Int) : Int := bits .or .u32 (x * 2 ^ k % 4294967296) (x / 2 ^ (32 - k))
theorem rotl16_calls (x : Int) (w : World) (h : 0 ≤ x) (h' : x < 4294967296) :
    Calls Tryd.prog 57 #[.int .u32 x, .int .i64 16] w fun e w' => e = .returned (.int .u32 (rotl 16 x)) ∧ w' = w := by
  have b1 : bits .and .u64 16 31 = 16 := by decide
  go_enter Tryd.func57, Tryd.ntmps57
  go_wp2
  go_ret
  exact ⟨rfl, rfl⟩
theorem rotl12_calls (x : Int) (w : World) (h : 0 ≤ x) (h' : x < 4294967296) :
    Calls Tryd.prog 57 #[.int .u32 x, .int .i64 12] w fun e w' => e = .returned (.int .u32 (rotl 12 x)) ∧ w' = w := by
  have b1 : bits .and .u64 12 31 = 12 := by decide
  go_enter Tryd.func57, Tryd.ntmps57
  go_wp2
  go_ret
  exact ⟨rfl, rfl⟩
theorem rotl8_calls (x : Int) (w : World) (h : 0 ≤ x) (h' : x < 4294967296) :
    Calls Tryd.prog 57 #[.int .u32 x, .int .i64 8] w fun e w' => e = .returned (.int .u32 (rotl 8 x)) ∧ w' = w := by
  have b1 : bits .and .u64 8 31 = 8 := by decide
  go_enter Tryd.func57, Tryd.ntmps57
  go_wp2
  go_ret
  exact ⟨rfl, rfl⟩
theorem rotl7_calls (x : Int) (w : World) (h : 0 ≤ x) (h' : x < 4294967296) :
    Calls Tryd.prog 57 #[.int .u32 x, .int .i64 7] w fun e w' => e = .returned (.int .u32 (rotl 7 x)) ∧ w' = w := by
  have b1 : bits .and .u64 7 31 = 7 := by decide
  go_enter Tryd.func57, Tryd.ntmps57
  go_wp2
  go_ret
  exact ⟨rfl, rfl⟩

def qadd (xs : List Int) (a b : Nat) : List Int := xs.set a ((rd xs a + rd xs b) % 4294967296)
def qxor (k : Nat) (xs : List Int) (d a : Nat) : List Int := xs.set d (rotl k (bits .xor .u32 (rd xs d) (rd xs a)))
def quarter (xs : List Int) (a b c d : Nat) : List Int :=
  qxor 7 (qadd (qxor 8 (qadd (qxor 12 (qadd (qxor 16 (qadd xs a b) d a) c d) b c) a b) d a) c d) b c
@[simp] theorem qadd_length (xs : List Int) (a b : Nat) : (qadd xs a b).length = xs.length := by simp [qadd]
@[simp] theorem qxor_length (k : Nat) (xs : List Int) (a b : Nat) : (qxor k xs a b).length = xs.length := by simp [qxor]
@[simp] theorem quarter_length (xs : List Int) (a b c d : Nat) : (quarter xs a b c d).length = xs.length := by simp [quarter]
/-- All are words. -/
def words (xs : List Int) : Prop := ∀ i, 0 ≤ rd xs i ∧ rd xs i < 4294967296
theorem rd_set (xs : List Int) (i j : Nat) (x : Int) : rd (xs.set i x) j = if i = j ∧ j < xs.length then x else rd xs j := by
  unfold rd
  by_cases h : i = j
  · subst h
    by_cases hl : i < xs.length <;> simp [List.getElem?_set, hl]
  · simp [List.getElem?_set_ne h, h]
theorem words_set {xs : List Int} (h : words xs) (i : Nat) {x : Int} (h0 : 0 ≤ x) (h1 : x < 4294967296) : words (xs.set i x) := by
  intro j
  rw [rd_set]
  split
  · exact ⟨h0, h1⟩
  · exact h j
theorem bits_u32_bound (op : BinOp) (x y : Int) : 0 ≤ bits op .u32 x y ∧ bits op .u32 x y < 4294967296 :=
  ⟨(bits_within op .u32 x y).1, by have := (bits_within op .u32 x y).2; have e : IntKind.u32.max = 4294967295 := by decide
                                   omega⟩
theorem rotl_bound (k : Nat) (x : Int) : 0 ≤ rotl k x ∧ rotl k x < 4294967296 := bits_u32_bound _ _ _
theorem words_qadd {xs : List Int} (h : words xs) (a b : Nat) : words (qadd xs a b) := words_set h a (Int.emod_nonneg _ (by decide)) (Int.emod_lt_of_pos _ (by decide))
theorem words_qxor {xs : List Int} (h : words xs) (k a b : Nat) : words (qxor k xs a b) := words_set h a (rotl_bound _ _).1 (rotl_bound _ _).2
theorem words_quarter {xs : List Int} (h : words xs) (a b c d : Nat) : words (quarter xs a b c d) :=
  words_qxor (words_qadd (words_qxor (words_qadd (words_qxor (words_qadd (words_qxor (words_qadd h _ _) _ _ _) _ _) _ _ _) _ _) _ _ _) _ _) _ _ _

set_option maxHeartbeats 4000000 in
set_option maxRecDepth 100000 in
theorem quarter_calls (g a b c d : Nat) (xs : List Int) (w : World) (hx : xs.length = 16) (ha : a < 16) (hb : b < 16) (hc : c < 16) (hd : d < 16) (hg : Blk w g 65 (ints .u32 xs)) (hw : words xs) :
    Calls Tryd.prog 43 #[.pointer (some ⟨g, 0, none⟩), .int .i64 a, .int .i64 b, .int .i64 c, .int .i64 d] w fun e w' => e = .returned (.tuple #[]) ∧ Blk w' g 65 (ints .u32 (quarter xs a b c d)) ∧ Only g w w' := by
  have ia : (a : Int) < 16 := by omega
  have ib : (b : Int) < 16 := by omega
  have ic : (c : Int) < 16 := by omega
  have id : (d : Int) < 16 := by omega
  obtain ⟨x0, HX⟩ : ∃ x, Hd (x = xs) := ⟨xs, hid rfl⟩
  have HL : Hd (x0.length = 16) := hid (by rw [HX.out]; exact hx)
  have HW : Hd (words x0) := hid (by rw [HX.out]; exact hw)
  replace hg : Blk w g 65 (ints .u32 x0) := by rw [HX.out]; exact hg
  clear hx hw
  obtain ⟨w0, HE⟩ : ∃ v, Hd (v = w) := ⟨w, hid rfl⟩
  replace hg : Blk w0 g 65 (ints .u32 x0) := by rw [HE.out]; exact hg
  have HO : Only g w0 w0 := Only.refl g w0
  rw [← HE.out]
  clear HE
  go_enter Tryd.func43, Tryd.ntmps43
  go_wp2
  -- region 0
  have cx := hg.cellI a (by have := HL.out; omega)
  have cy := hg.cellI b (by have := HL.out; omega)
  have fx := hg.frozen a
  refine wp_region_still_tail 13 (by kernel_rfl) (by kernel_rfl) ?_
  simp only [List.take_succ_cons, List.take_zero, List.drop_succ_cons, List.drop_zero]
  change wpStill _ _ (World.drew _) (fun a' => wpList _ _ _ _ a' (World.drew _)) _ _
  repeat still_step
  refine wpStill_nil ?_
  change wpList _ _ _ _ _ _
  go_wp2_with fail
  replace hg : Blk _ g 65 (ints .u32 (qadd x0 a b)) := (hg.setI a ((rd x0 a + rd x0 b) % 4294967296)).drew
  replace HO := (HO.setCell a (.int .u32 ((rd x0 a + rd x0 b) % 4294967296))).drew
  replace HW : Hd (words (qadd x0 a b)) := hid (words_qadd HW.out _ _)
  replace HL : Hd ((qadd x0 a b).length = 16) := hid (by have := HL.out; simpa using this)
  replace HX : Hd (qadd x0 a b = qadd xs a b) := hid (by rw [HX.out])
  clear cx cy fx
  generalize (w0.setCell { block := g, off := a } (.int .u32 ((rd x0 a + rd x0 b) % 4294967296))).drew = w1 at hg HO ⊢
  generalize hx1 : qadd x0 a b = x1 at hg HW HL HX
  clear hx1
  -- region 1
  have cx := hg.cellI d (by have := HL.out; omega)
  have cy := hg.cellI a (by have := HL.out; omega)
  have fx := hg.frozen d
  refine wp_region_still_tail 16 (by kernel_rfl) (by kernel_rfl) ?_
  simp only [List.take_succ_cons, List.take_zero, List.drop_succ_cons, List.drop_zero]
  change wpStill _ _ (World.drew _) (fun a' => wpList _ _ _ _ a' (World.drew _)) _ _
  repeat still_step
  still_call (rotl16_calls _ _ (bits_u32_bound _ _ _).1 (bits_u32_bound _ _ _).2)
  repeat still_step
  refine wpStill_nil ?_
  change wpList _ _ _ _ _ _
  go_wp2_with fail
  replace hg : Blk _ g 65 (ints .u32 (qxor 16 x1 d a)) := (hg.setI d (rotl 16 (bits .xor .u32 (rd x1 d) (rd x1 a)))).drew
  replace HO := (HO.setCell d (.int .u32 (rotl 16 (bits .xor .u32 (rd x1 d) (rd x1 a))))).drew
  replace HW : Hd (words (qxor 16 x1 d a)) := hid (words_qxor HW.out _ _ _)
  replace HL : Hd ((qxor 16 x1 d a).length = 16) := hid (by have := HL.out; simpa using this)
  replace HX : Hd (qxor 16 x1 d a = qxor 16 (qadd xs a b) d a) := hid (by rw [HX.out])
  clear cx cy fx
  generalize (w1.setCell { block := g, off := d } (.int .u32 (rotl 16 (bits .xor .u32 (rd x1 d) (rd x1 a))))).drew = w2 at hg HO ⊢
  generalize hx1 : qxor 16 x1 d a = x2 at hg HW HL HX
  clear hx1
  -- region 2
  have cx := hg.cellI c (by have := HL.out; omega)
  have cy := hg.cellI d (by have := HL.out; omega)
  have fx := hg.frozen c
  refine wp_region_still_tail 13 (by kernel_rfl) (by kernel_rfl) ?_
  simp only [List.take_succ_cons, List.take_zero, List.drop_succ_cons, List.drop_zero]
  change wpStill _ _ (World.drew _) (fun a' => wpList _ _ _ _ a' (World.drew _)) _ _
  repeat still_step
  refine wpStill_nil ?_
  change wpList _ _ _ _ _ _
  go_wp2_with fail
  replace hg : Blk _ g 65 (ints .u32 (qadd x2 c d)) := (hg.setI c ((rd x2 c + rd x2 d) % 4294967296)).drew
  replace HO := (HO.setCell c (.int .u32 ((rd x2 c + rd x2 d) % 4294967296))).drew
  replace HW : Hd (words (qadd x2 c d)) := hid (words_qadd HW.out _ _)
  replace HL : Hd ((qadd x2 c d).length = 16) := hid (by have := HL.out; simpa using this)
  replace HX : Hd (qadd x2 c d = qadd (qxor 16 (qadd xs a b) d a) c d) := hid (by rw [HX.out])
  clear cx cy fx
  generalize (w2.setCell { block := g, off := c } (.int .u32 ((rd x2 c + rd x2 d) % 4294967296))).drew = w3 at hg HO ⊢
  generalize hx1 : qadd x2 c d = x3 at hg HW HL HX
  clear hx1
  -- region 3
  have cx := hg.cellI b (by have := HL.out; omega)
  have cy := hg.cellI c (by have := HL.out; omega)
  have fx := hg.frozen b
  refine wp_region_still_tail 16 (by kernel_rfl) (by kernel_rfl) ?_
  simp only [List.take_succ_cons, List.take_zero, List.drop_succ_cons, List.drop_zero]
  change wpStill _ _ (World.drew _) (fun a' => wpList _ _ _ _ a' (World.drew _)) _ _
  repeat still_step
  still_call (rotl12_calls _ _ (bits_u32_bound _ _ _).1 (bits_u32_bound _ _ _).2)
  repeat still_step
  refine wpStill_nil ?_
  change wpList _ _ _ _ _ _
  go_wp2_with fail
  replace hg : Blk _ g 65 (ints .u32 (qxor 12 x3 b c)) := (hg.setI b (rotl 12 (bits .xor .u32 (rd x3 b) (rd x3 c)))).drew
  replace HO := (HO.setCell b (.int .u32 (rotl 12 (bits .xor .u32 (rd x3 b) (rd x3 c))))).drew
  replace HW : Hd (words (qxor 12 x3 b c)) := hid (words_qxor HW.out _ _ _)
  replace HL : Hd ((qxor 12 x3 b c).length = 16) := hid (by have := HL.out; simpa using this)
  replace HX : Hd (qxor 12 x3 b c = qxor 12 (qadd (qxor 16 (qadd xs a b) d a) c d) b c) := hid (by rw [HX.out])
  clear cx cy fx
  generalize (w3.setCell { block := g, off := b } (.int .u32 (rotl 12 (bits .xor .u32 (rd x3 b) (rd x3 c))))).drew = w4 at hg HO ⊢
  generalize hx1 : qxor 12 x3 b c = x4 at hg HW HL HX
  clear hx1
  -- region 4
  have cx := hg.cellI a (by have := HL.out; omega)
  have cy := hg.cellI b (by have := HL.out; omega)
  have fx := hg.frozen a
  refine wp_region_still_tail 13 (by kernel_rfl) (by kernel_rfl) ?_
  simp only [List.take_succ_cons, List.take_zero, List.drop_succ_cons, List.drop_zero]
  change wpStill _ _ (World.drew _) (fun a' => wpList _ _ _ _ a' (World.drew _)) _ _
  repeat still_step
  refine wpStill_nil ?_
  change wpList _ _ _ _ _ _
  go_wp2_with fail
  replace hg : Blk _ g 65 (ints .u32 (qadd x4 a b)) := (hg.setI a ((rd x4 a + rd x4 b) % 4294967296)).drew
  replace HO := (HO.setCell a (.int .u32 ((rd x4 a + rd x4 b) % 4294967296))).drew
  replace HW : Hd (words (qadd x4 a b)) := hid (words_qadd HW.out _ _)
  replace HL : Hd ((qadd x4 a b).length = 16) := hid (by have := HL.out; simpa using this)
  replace HX : Hd (qadd x4 a b = qadd (qxor 12 (qadd (qxor 16 (qadd xs a b) d a) c d) b c) a b) := hid (by rw [HX.out])
  clear cx cy fx
  generalize (w4.setCell { block := g, off := a } (.int .u32 ((rd x4 a + rd x4 b) % 4294967296))).drew = w5 at hg HO ⊢
  generalize hx1 : qadd x4 a b = x5 at hg HW HL HX
  clear hx1
  -- region 5
  have cx := hg.cellI d (by have := HL.out; omega)
  have cy := hg.cellI a (by have := HL.out; omega)
  have fx := hg.frozen d
  refine wp_region_still_tail 16 (by kernel_rfl) (by kernel_rfl) ?_
  simp only [List.take_succ_cons, List.take_zero, List.drop_succ_cons, List.drop_zero]
  change wpStill _ _ (World.drew _) (fun a' => wpList _ _ _ _ a' (World.drew _)) _ _
  repeat still_step
  still_call (rotl8_calls _ _ (bits_u32_bound _ _ _).1 (bits_u32_bound _ _ _).2)
  repeat still_step
  refine wpStill_nil ?_
  change wpList _ _ _ _ _ _
  go_wp2_with fail
  replace hg : Blk _ g 65 (ints .u32 (qxor 8 x5 d a)) := (hg.setI d (rotl 8 (bits .xor .u32 (rd x5 d) (rd x5 a)))).drew
  replace HO := (HO.setCell d (.int .u32 (rotl 8 (bits .xor .u32 (rd x5 d) (rd x5 a))))).drew
  replace HW : Hd (words (qxor 8 x5 d a)) := hid (words_qxor HW.out _ _ _)
  replace HL : Hd ((qxor 8 x5 d a).length = 16) := hid (by have := HL.out; simpa using this)
  replace HX : Hd (qxor 8 x5 d a = qxor 8 (qadd (qxor 12 (qadd (qxor 16 (qadd xs a b) d a) c d) b c) a b) d a) := hid (by rw [HX.out])
  clear cx cy fx
  generalize (w5.setCell { block := g, off := d } (.int .u32 (rotl 8 (bits .xor .u32 (rd x5 d) (rd x5 a))))).drew = w6 at hg HO ⊢
  generalize hx1 : qxor 8 x5 d a = x6 at hg HW HL HX
  clear hx1
  -- region 6
  have cx := hg.cellI c (by have := HL.out; omega)
  have cy := hg.cellI d (by have := HL.out; omega)
  have fx := hg.frozen c
  refine wp_region_still_tail 13 (by kernel_rfl) (by kernel_rfl) ?_
  simp only [List.take_succ_cons, List.take_zero, List.drop_succ_cons, List.drop_zero]
  change wpStill _ _ (World.drew _) (fun a' => wpList _ _ _ _ a' (World.drew _)) _ _
  repeat still_step
  refine wpStill_nil ?_
  change wpList _ _ _ _ _ _
  go_wp2_with fail
  replace hg : Blk _ g 65 (ints .u32 (qadd x6 c d)) := (hg.setI c ((rd x6 c + rd x6 d) % 4294967296)).drew
  replace HO := (HO.setCell c (.int .u32 ((rd x6 c + rd x6 d) % 4294967296))).drew
  replace HW : Hd (words (qadd x6 c d)) := hid (words_qadd HW.out _ _)
  replace HL : Hd ((qadd x6 c d).length = 16) := hid (by have := HL.out; simpa using this)
  replace HX : Hd (qadd x6 c d = qadd (qxor 8 (qadd (qxor 12 (qadd (qxor 16 (qadd xs a b) d a) c d) b c) a b) d a) c d) := hid (by rw [HX.out])
  clear cx cy fx
  generalize (w6.setCell { block := g, off := c } (.int .u32 ((rd x6 c + rd x6 d) % 4294967296))).drew = w7 at hg HO ⊢
  generalize hx1 : qadd x6 c d = x7 at hg HW HL HX
  clear hx1
  -- region 7
  have cx := hg.cellI b (by have := HL.out; omega)
  have cy := hg.cellI c (by have := HL.out; omega)
  have fx := hg.frozen b
  refine wp_region_still_tail 16 (by kernel_rfl) (by kernel_rfl) ?_
  simp only [List.take_succ_cons, List.take_zero, List.drop_succ_cons, List.drop_zero]
  change wpStill _ _ (World.drew _) (fun a' => wpList _ _ _ _ a' (World.drew _)) _ _
  repeat still_step
  still_call (rotl7_calls _ _ (bits_u32_bound _ _ _).1 (bits_u32_bound _ _ _).2)
  repeat still_step
  refine wpStill_nil ?_
  change wpList _ _ _ _ _ _
  go_wp2_with fail
  replace hg : Blk _ g 65 (ints .u32 (qxor 7 x7 b c)) := (hg.setI b (rotl 7 (bits .xor .u32 (rd x7 b) (rd x7 c)))).drew
  replace HO := (HO.setCell b (.int .u32 (rotl 7 (bits .xor .u32 (rd x7 b) (rd x7 c))))).drew
  replace HW : Hd (words (qxor 7 x7 b c)) := hid (words_qxor HW.out _ _ _)
  replace HL : Hd ((qxor 7 x7 b c).length = 16) := hid (by have := HL.out; simpa using this)
  replace HX : Hd (qxor 7 x7 b c = qxor 7 (qadd (qxor 8 (qadd (qxor 12 (qadd (qxor 16 (qadd xs a b) d a) c d) b c) a b) d a) c d) b c) := hid (by rw [HX.out])
  clear cx cy fx
  generalize (w7.setCell { block := g, off := b } (.int .u32 (rotl 7 (bits .xor .u32 (rd x7 b) (rd x7 c))))).drew = w8 at hg HO ⊢
  generalize hx1 : qxor 7 x7 b c = x8 at hg HW HL HX
  clear hx1
  go_end0
  exact ⟨rfl, by rw [show quarter xs a b c d = x8 from HX.out.symm]; exact hg, HO⟩
end Go.Proofs.YtpmmmbilfblcpaaDoor
