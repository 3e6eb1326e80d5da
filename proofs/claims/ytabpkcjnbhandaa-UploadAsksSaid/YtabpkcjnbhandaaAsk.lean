/- Ask: what is asked of a relay by an upload. -/
import Derived.Test.YtabpkcjnbhandaaFile
import Derived.Test.YtabpkcjnbhandaaMem
import Derived.Test.YtabpkcjnbhandaaFacts
namespace Go.Proofs.Ytabpkcjnbhandaa
open Go.RowKit Go.Cour
attribute [local go_sem] max2_int min2_int
theorem ready_calls (g : Nat) (wt : Int) (o : Nat) (w : World) (h1 : w.cell? ⟨g, o + 1, none⟩ = some (.int .i64 wt)) :
    Calls Try.prog 10 #[.pointer (some ⟨g, o, none⟩)] w fun e w' => e = .returned (.bool (wt == 0)) ∧ w' = w := by
  go_enter Try.func10, Try.ntmps10
  go_wp2
  go_ret
  exact ⟨rfl, rfl⟩
/-- A request's cells. -/
def reqCells (op : Int) (ids : List Int) (off n : Int) (v : Value) : List Value := .int .i64 op :: (ints .u8 ids ++ [.int .u32 off, .int .u32 n, v])
def noReq : List Value := reqCells 0 (List.replicate 32 0) 0 0 (.slice none 0 0)
theorem reqCells_len (op : Int) (ids : List Int) (off n : Int) (v : Value) (h : ids.length = 32) : (reqCells op ids off n v).length = 36 := by simp [reqCells, ints, h]
theorem reqCells_one (op : Int) (ids : List Int) (off n : Int) (v : Value) (h : v.oneCell' = true) : (reqCells op ids off n v).toArray.all (·.oneCell') = true := by
  have := ints_one .u8 ids
  rw [List.all_toArray, List.all_eq_true] at this ⊢
  intro x hx
  simp only [reqCells, List.mem_cons, List.mem_append, List.not_mem_nil, or_false] at hx
  rcases hx with rfl | hx | rfl | rfl | rfl
  · rfl
  · exact this x hx
  · rfl
  · rfl
  · exact h
theorem infoReq : (Try.prog.info? 37).map (·.size) = some 36 := by kernel_rfl
theorem zeroReq : ((Try.prog.info? 37).bind (·.zero)).map (·.cells) = some noReq.toArray := by kernel_rfl
theorem builtReq : Try.prog.built 37 [] = some noReq.toArray := by kernel_rfl
theorem isStruct {P : Program} {t : TypeId} (h : (match P.underlying t with | some (.struct _) => true | _ => false) = true) : ∃ fs, P.underlying t = some (.struct fs) := by
  split at h
  · rename_i fs hf; exact ⟨fs, hf⟩
  · cases h
theorem underReq : ∃ fs, Try.prog.underlying 37 = some (.struct fs) := isStruct (by kernel_rfl)
theorem infoHash : (Try.prog.info? 32).map (·.size) = some 32 := by kernel_rfl
theorem arrHash : Try.prog.underlying 32 = some (.array 32 5) := by kernel_rfl
set_option maxHeartbeats 2000000 in
set_option maxRecDepth 100000 in
theorem ask_not (g c m : Nat) (A : Option Addr) (p a t wt : Int) (ids : List Int) (w : World) (hil : ids.length = 32) (hg : Blk w g 30 (ints .i64 [p, a, t, wt])) (hp : 5 ≤ p ∨ wt ≠ 0) (hp0 : 0 ≤ p) :
    Calls Try.prog 8 #[.pointer (some ⟨g, 0, none⟩), .agg (ints .u8 ids).toArray, .slice A m c] w fun e w' =>
      e = .returned (.tuple #[.agg noReq.toArray, .bool false]) ∧ Below w.heap.size w w' := by
  have c0 : w.cell? ⟨g, 0, none⟩ = some (.int .i64 p) := hg.cell 0
  have d0 : decide (p < 0) = false := by simp; omega
  obtain ⟨fs, hfs⟩ := underReq
  by_cases h5 : 5 ≤ p
  · have d1 : decide (5 ≤ p) = true := by simp; omega
    go_enter Try.func8, Try.ntmps8
    go_wp2_with (first
      | (refine alloc_blk rfl 37 rfl _ rfl noReq zeroReq ?_; intro g6 w1 hg6 hb6 hB6 hs6; have hgw := (hg.alloc (.cells (ints .u8 ids).toArray 32)).belowAll hB6; have c1 : w1.cell? ⟨g, 0, none⟩ = some (.int .i64 p) := hgw.cell 0)
      | (refine wpList_buildTo rfl 37 #[] rfl _ rfl noReq.toArray builtReq ?_)
      | (refine store_blk rfl 37 _ _ rfl g6 noReq rfl rfl 37 _ hb6 36 infoReq (reqCells_len _ _ _ _ _ (by simp)) (reqCells_len _ _ _ _ _ (by simp)) (reqCells_one _ _ _ _ _ rfl) ?_) | fail)
    refine bodyPost_ret (v := .tuple #[.agg noReq.toArray, .bool false]) (results_str2 rfl _ _ g6 37 noReq _ fs rfl rfl (hb6.setRow noReq) hfs infoReq) rfl ?_
    exact ⟨rfl, below_setRow (below_then ((Below.refl _ _).alloc (Nat.le_refl _) _) (by simp) hB6) (by rw [← hg6]; simp) _⟩
  · have d1 : decide (5 ≤ p) = false := by simp; omega
    have d2 : (wt == 0) = false := by rw [beq_eq_false_iff_ne]; omega
    go_enter Try.func8, Try.ntmps8
    go_wp2_with (first
      | (refine alloc_blk rfl 37 rfl _ rfl noReq zeroReq ?_; intro g6 w1 hg6 hb6 hB6 hs6; have hgw := (hg.alloc (.cells (ints .u8 ids).toArray 32)).belowAll hB6; have c1 : w1.cell? ⟨g, 0, none⟩ = some (.int .i64 p) := hgw.cell 0)
      | (go_at_call 10; refine (ready_calls g wt 2 _ (hgw.cell 3)).mono ?_; rintro e wx ⟨rfl, rfl⟩)
      | (refine wpList_buildTo rfl 37 #[] rfl _ rfl noReq.toArray builtReq ?_)
      | (refine store_blk rfl 37 _ _ rfl g6 noReq rfl rfl 37 _ hb6 36 infoReq (reqCells_len _ _ _ _ _ (by simp)) (reqCells_len _ _ _ _ _ (by simp)) (reqCells_one _ _ _ _ _ rfl) ?_) | fail)
    refine bodyPost_ret (v := .tuple #[.agg noReq.toArray, .bool false]) (results_str2 rfl _ _ g6 37 noReq _ fs rfl rfl (hb6.setRow noReq) hfs infoReq) rfl ?_
    exact ⟨rfl, below_setRow (below_then ((Below.refl _ _).alloc (Nat.le_refl _) _) (by simp) hB6) (by rw [← hg6]; simp) _⟩
theorem builtReq2 (op : Int) (ids : List Int) (h : ids.length = 32) : Try.prog.built 37 [(0, .int .i64 op), (1, .agg (ints .u8 ids).toArray)] = some (reqCells op ids 0 0 (.slice none 0 0)).toArray := by
  match ids, h with
  | [x0, x1, x2, x3, x4, x5, x6, x7, x8, x9, x10, x11, x12, x13, x14, x15, x16, x17, x18, x19, x20, x21, x22, x23, x24, x25, x26, x27, x28, x29, x30, x31], _ => change _ = _; kernel_rfl
/-- Which request a phase makes. -/
def opOf (p : Int) : Int := rd [5, 1, 2, 3, 6] p.toNat
def noSl : Value := .slice none 0 0
structure AskSaid (p m a : Nat) (off n : Int) : Prop where
  len : p = 1 → n = m
  noLen : p ≠ 1 → n = 0
  at2 : p = 2 → off = a
  noAt : p ≠ 2 → off = 0
theorem req33 (op : Int) (ids : List Int) (off n : Int) (v : Value) (h : ids.length = 32) : (reqCells op ids off n v)[33]? = some (.int .u32 off) := by
  simp [reqCells, ints, List.getElem?_append, h]
theorem req34 (op : Int) (ids : List Int) (off n : Int) (v : Value) (h : ids.length = 32) : (reqCells op ids off n v)[34]? = some (.int .u32 n) := by
  simp [reqCells, ints, List.getElem?_append, h]
theorem req35 (op : Int) (ids : List Int) (off n : Int) (v : Value) (h : ids.length = 32) : (reqCells op ids off n v)[35]? = some v := by
  simp [reqCells, ints, List.getElem?_append, h]
theorem set33 (op : Int) (ids : List Int) (off n x : Int) (v : Value) (h : ids.length = 32) : (reqCells op ids off n v).set 33 (.int .u32 x) = reqCells op ids x n v := by
  simp [reqCells, ints, List.set_append, h]
theorem set34 (op : Int) (ids : List Int) (off n x : Int) (v : Value) (h : ids.length = 32) : (reqCells op ids off n v).set 34 (.int .u32 x) = reqCells op ids off x v := by
  simp [reqCells, ints, List.set_append, h]
theorem set35 (op : Int) (ids : List Int) (off n : Int) (v x : Value) (h : ids.length = 32) : (reqCells op ids off n v).set 35 x = reqCells op ids off n x := by
  simp [reqCells, ints, List.set_append, h]
set_option maxHeartbeats 2000000 in
set_option maxRecDepth 100000 in
theorem ask_yes (g c m : Nat) (A : Option Addr) (a : Nat) (t : Int) (p : Nat) (ids xs : List Int) (w : World) (hil : ids.length = 32) (hg : Blk w g 30 (ints .i64 [p, a, t, 0])) (hp : p < 5)
    (hm : m = xs.length) (hc : m ≤ c) (hA : A = none → c = 0) (hr : Rd w A .u8 xs) (hl : xs.length ≤ 1000000) (ha : a ≤ 1000000) :
    Calls Try.prog 8 #[.pointer (some ⟨g, 0, none⟩), .agg (ints .u8 ids).toArray, .slice A m c] w fun e w' =>
      ∃ off n v, e = .returned (.tuple #[.agg (reqCells (opOf p) ids off n v).toArray, .bool true]) ∧ Below w.heap.size w w' ∧ AskSaid p m a off n ∧ (p ≠ 2 → v = noSl) ∧
        (p = 2 → Own w' w.heap.size 5 .u8 v ((xs.drop (min a m)).take (min 200 (m - min a m)))) := by
  subst hm
  have c0 : w.cell? ⟨g, 0, none⟩ = some (.int .i64 p) := hg.cell 0
  have d0 : decide ((p : Int) < 0) = false := by simp
  have d1 : decide ((5 : Int) ≤ p) = false := by simp; omega
  obtain ⟨fs, hfs⟩ := underReq
  go_enter Try.func8, Try.ntmps8
  go_wp2_with (first
    | (refine alloc_blk rfl 37 rfl _ rfl noReq zeroReq ?_; intro g6 w1 hg6 hb6 hB6 hs6; have hgw := (hg.alloc (.cells (ints .u8 ids).toArray 32)).belowAll hB6; have hiw := (Blk.new w 32 (ints .u8 ids)).belowAll hB6; have c1 : w1.cell? ⟨g, 0, none⟩ = some (.int .i64 p) := hgw.cell 0)
    | (go_at_call 10; refine (ready_calls g 0 2 _ (hgw.cell 3)).mono ?_; rintro e wx ⟨rfl, rfl⟩)
    | fail)
  have hg6' : w.heap.size + 1 = g6 := by rw [← hg6]; simp
  have hgl := hg.lt
  obtain ⟨B, hB⟩ : ∃ B, Hd (wx.heap.size = B) := ⟨_, hid rfl⟩
  have hgB : g < B := by have := hB.out; omega
  have hwB : w.heap.size < B := by have := hB.out; omega
  have hp0 : (0 : Int) ≤ p := by omega
  have hp5 : (p : Int) < 5 := by omega
  refine wp_region_facts (ix := [[0], [1], [2], [3], [4], [5], [6], [7], [8], [9], [9]]) (S := fun w' => Below B wx w')
    (R := fun w w' => ∀ g t cs, Blk w g t cs → ∃ cs', Blk w' g t cs' ∧ cs'.length = cs.length ∧ (t ≠ 37 ∨ cs = reqCells (opOf p) ids 0 0 noSl → cs' = cs))
    (p := fun j vs w' => match j with
      | 0 => ∃ g0, vs 0 = .slice (some ⟨g0, 0, none⟩) 5 5 ∧ Blk w' g0 3 (ints .i64 [5, 1, 2, 3, 6])
      | 1 => vs 1 = .pointer (some ⟨g, 0, none⟩)
      | 2 => vs 2 = .pointer (some ⟨g, 0, none⟩)
      | 3 => vs 3 = .pointer (some ⟨g, 0, none⟩)
      | 4 => vs 4 = .int .i64 p
      | 5 => ∃ g0, vs 5 = .pointer (some ⟨g0, p, none⟩) ∧ Blk w' g0 3 (ints .i64 [5, 1, 2, 3, 6])
      | 6 => vs 6 = .int .i64 (opOf p)
      | 7 => vs 7 = .agg (ints .u8 ids).toArray
      | 8 => vs 8 = .agg (reqCells (opOf p) ids 0 0 noSl).toArray
      | 9 => ∃ g8, vs 9 = .pointer (some ⟨g8, 0, none⟩) ∧ B ≤ g8 ∧ ∃ cs, Blk w' g8 37 cs ∧ cs.length = 36
      | 10 => ∃ g8, vs 9 = .pointer (some ⟨g8, 0, none⟩) ∧ B ≤ g8 ∧ Blk w' g8 37 (reqCells (opOf p) ids 0 0 noSl)
      | _ => True)
    (by kernel_rfl) (by kernel_rfl) ?_ ?_ ?_ ?_
  · exact below_drewN (Below.refl _ _) 1
  · intro j vs w1 w2 hR h
    match j with
    | 0 => obtain ⟨g0, h1, h2⟩ := h; obtain ⟨_, h3, _, h4⟩ := hR _ _ _ h2; exact ⟨g0, h1, h4 (.inl (by decide)) ▸ h3⟩
    | 1 | 2 | 3 | 4 | 6 | 7 | 8 => exact h
    | 5 => obtain ⟨g0, h1, h2⟩ := h; obtain ⟨_, h3, _, h4⟩ := hR _ _ _ h2; exact ⟨g0, h1, h4 (.inl (by decide)) ▸ h3⟩
    | 9 => obtain ⟨g8, h1, h2, cs, h3, h4⟩ := h; obtain ⟨cs', h5, h6, _⟩ := hR _ _ _ h3; exact ⟨g8, h1, h2, cs', h5, h6.trans h4⟩
    | 10 => obtain ⟨g8, h1, h2, h3⟩ := h; obtain ⟨_, h5, _, h6⟩ := hR _ _ _ h3; exact ⟨g8, h1, h2, h6 (.inr rfl) ▸ h5⟩
    | n + 11 => trivial
  · refine ⟨?_, ?_, ?_, ?_, ?_, ?_, ?_, ?_, ?_, ?_, ?_, trivial⟩
    · (intro vs w2 hS hd; simp [Region.binds, Fact.at] at hd; simp only [fill, List.take_succ_cons, List.take_zero, Act.put, List.setIfInBounds_toArray, List.set_cons_zero, List.set_cons_succ, Nat.reduceAdd])
      go_wp2_with (first | (refine literal_blk rfl 40 3 5 _ rfl _ rfl .i64 [5, 1, 2, 3, 6] (by kernel_rfl) (by kernel_rfl) (by kernel_rfl) rfl (by decide) (by decide) rfl ?_; intro g0 w3 hg0 hb0 hB0 hs0) | fail)
      exact ⟨rfl, ⟨g0, rfl, hb0⟩, below_then hS (by have := hS.size; rw [hB.out] at this; exact this) hB0, fun g t cs h => ⟨cs, h.belowAll hB0, rfl, fun _ => rfl⟩⟩
    · (intro vs w2 hS hd; simp [Region.binds, Fact.at] at hd; simp only [fill, List.take_succ_cons, List.take_zero, Act.put, List.setIfInBounds_toArray, List.set_cons_zero, List.set_cons_succ, Nat.reduceAdd])
      go_wp2_with fail
      exact ⟨rfl, rfl, hS, fun g t cs h => ⟨cs, h, rfl, fun _ => rfl⟩⟩
    · (intro vs w2 hS hd; simp [Region.binds, Fact.at] at hd; simp only [fill, List.take_succ_cons, List.take_zero, Act.put, List.setIfInBounds_toArray, List.set_cons_zero, List.set_cons_succ, Nat.reduceAdd])
      simp only [hd]
      go_wp2_with fail
      exact ⟨rfl, rfl, hS, fun g t cs h => ⟨cs, h, rfl, fun _ => rfl⟩⟩
    · (intro vs w2 hS hd; simp [Region.binds, Fact.at] at hd; simp only [fill, List.take_succ_cons, List.take_zero, Act.put, List.setIfInBounds_toArray, List.set_cons_zero, List.set_cons_succ, Nat.reduceAdd])
      simp only [hd]
      go_wp2_with fail
      exact ⟨rfl, rfl, hS, fun g t cs h => ⟨cs, h, rfl, fun _ => rfl⟩⟩
    · (intro vs w2 hS hd; simp [Region.binds, Fact.at] at hd; simp only [fill, List.take_succ_cons, List.take_zero, Act.put, List.setIfInBounds_toArray, List.set_cons_zero, List.set_cons_succ, Nat.reduceAdd])
      have c2 : w2.cell? ⟨g, 0, none⟩ = some (.int .i64 p) := (hgw.below hS hgB).cell 0
      simp only [hd]
      go_wp2_with fail
      exact ⟨rfl, rfl, hS, fun g t cs h => ⟨cs, h, rfl, fun _ => rfl⟩⟩
    · (intro vs w2 hS hd; simp [Region.binds, Fact.at] at hd; simp only [fill, List.take_succ_cons, List.take_zero, Act.put, List.setIfInBounds_toArray, List.set_cons_zero, List.set_cons_succ, Nat.reduceAdd])
      obtain ⟨⟨g0, h0, hb0⟩, h4⟩ := hd
      simp only [h0, h4]
      go_wp2_with fail
      exact ⟨rfl, ⟨g0, rfl, hb0⟩, hS, fun g t cs h => ⟨cs, h, rfl, fun _ => rfl⟩⟩
    · (intro vs w2 hS hd; simp [Region.binds, Fact.at] at hd; simp only [fill, List.take_succ_cons, List.take_zero, Act.put, List.setIfInBounds_toArray, List.set_cons_zero, List.set_cons_succ, Nat.reduceAdd])
      obtain ⟨g0, h5, hb0⟩ := hd
      have cl : w2.cell? ⟨g0, p, none⟩ = some (.int .i64 (opOf p)) := hb0.cellI p (by simpa using hp)
      simp only [h5]
      go_wp2_with fail
      exact ⟨rfl, rfl, hS, fun g t cs h => ⟨cs, h, rfl, fun _ => rfl⟩⟩
    · (intro vs w2 hS hd; simp [Region.binds, Fact.at] at hd; simp only [fill, List.take_succ_cons, List.take_zero, Act.put, List.setIfInBounds_toArray, List.set_cons_zero, List.set_cons_succ, Nat.reduceAdd])
      have hi2 := hiw.below hS hwB
      go_wp2_with (first | (refine load_blk rfl 32 _ rfl w.heap.size rfl 32 _ hi2 32 5 arrHash (by simpa [ints] using hil) infoHash ?_) | fail)
      exact ⟨rfl, rfl, hS, fun g t cs h => ⟨cs, h, rfl, fun _ => rfl⟩⟩
    · (intro vs w2 hS hd; simp [Region.binds, Fact.at] at hd; simp only [fill, List.take_succ_cons, List.take_zero, Act.put, List.setIfInBounds_toArray, List.set_cons_zero, List.set_cons_succ, Nat.reduceAdd])
      obtain ⟨h6, h7⟩ := hd
      simp only [h6, h7]
      go_wp2_with (first | (refine wpList_buildTo rfl 37 _ rfl _ rfl (reqCells (opOf p) ids 0 0 noSl).toArray (by rw [Array.toList_map]; exact builtReq2 (opOf p) ids hil) ?_) | fail)
      exact ⟨rfl, rfl, hS, fun g t cs h => ⟨cs, h, rfl, fun _ => rfl⟩⟩
    · (intro vs w2 hS hd; simp [Region.binds, Fact.at] at hd; simp only [fill, List.take_succ_cons, List.take_zero, Act.put, List.setIfInBounds_toArray, List.set_cons_zero, List.set_cons_succ, Nat.reduceAdd])
      go_wp2_with (first | (refine alloc_blk rfl 37 rfl _ rfl noReq zeroReq ?_; intro g8 w3 hg8 hb8 hB8 hs8) | fail)
      have hs2 : B ≤ w2.heap.size := by have := hS.size; rw [hB.out] at this; exact this
      exact ⟨rfl, ⟨g8, rfl, by omega, noReq, hb8, reqCells_len _ _ _ _ _ (by simp)⟩, below_then hS hs2 hB8, fun g t cs h => ⟨cs, h.belowAll hB8, rfl, fun _ => rfl⟩⟩
    · (intro vs w2 hS hd; simp [Region.binds, Fact.at] at hd; simp only [fill, List.take_succ_cons, List.take_zero, Act.put, List.setIfInBounds_toArray, List.set_cons_zero, List.set_cons_succ, Nat.reduceAdd])
      obtain ⟨⟨g8, h9, hge, cs, hb8, hcl⟩, h8, _⟩ := hd
      simp only [h9, h8]
      go_wp2_with (first | (refine store_blk rfl 37 _ _ rfl g8 (reqCells (opOf p) ids 0 0 noSl) rfl rfl 37 cs hb8 36 infoReq (reqCells_len _ _ _ _ _ hil) hcl (reqCells_one _ _ _ _ _ rfl) ?_) | fail)
      refine ⟨rfl, ⟨g8, h9, hge, hb8.setRow _⟩, below_setRow hS hge _, fun g t cs' h => ?_⟩
      by_cases hgg : g = g8
      · subst hgg
        have h1 := Option.some.inj (h.symm.trans hb8)
        simp only [Obj.cells.injEq, and_true] at h1
        obtain ⟨h2, rfl⟩ := h1
        have h3 : cs' = cs := by simpa using congrArg Array.toList h2
        subst h3
        exact ⟨_, hb8.setRow _, by rw [reqCells_len _ _ _ _ _ hil, hcl], fun h => h.elim (fun h => absurd rfl h) (fun h => h.symm)⟩
      · exact ⟨cs', h.setRowOther hgg _, rfl, fun _ => rfl⟩
  · intro vs wq hf hS
    obtain ⟨g8, h9, hge, hb8⟩ := hf 10 (by simp)
    replace h9 : vs 9 = .pointer (some ⟨g8, 0, none⟩) := h9
    simp only [fill, Act.put, List.setIfInBounds_toArray, List.set_cons_zero, List.set_cons_succ, Nat.reduceAdd, h9]
    clear hf h9
    generalize vs 0 = v0
    generalize vs 1 = v1
    generalize vs 2 = v2
    generalize vs 3 = v3
    generalize vs 4 = v4
    generalize vs 5 = v5
    generalize vs 6 = v6
    generalize vs 7 = v7
    generalize vs 8 = v8
    generalize vs 10 = v10
    clear vs
    have hbq := hb6.below hS (by have := hB.out; omega)
    have cq := (hgw.below hS hgB).cell 0
    simp only [ints, List.map_cons, List.getElem?_cons_zero] at cq
    have hne6 : g8 ≠ g6 := by have := hB.out; omega
    have hg6B : w.heap.size ≤ g6 := by omega
    have hbelow : Below w.heap.size w wq := by
      refine below_then (below_then ((Below.refl _ _).alloc (Nat.le_refl _) _) (by simp) hB6) (by have := hB.out; omega) (?_ : Below wx.heap.size wx wq)
      rw [hB.out]; exact hS
    by_cases hp1 : p = 1
    · subst hp1
      have k34 : wq.cell? ⟨g8, 34, none⟩ = some (.int .u32 0) := by rw [hb8.cell 34, req34 _ _ _ _ _ hil]
      have f34 := hb8.frozen 34
      have hw : IntKind.u32.wrap (xs.length : Int) = xs.length := by rw [IntKind.wrap_u32]; omega
      have hb8' := hb8.set 34 (.int .u32 xs.length)
      rw [set34 _ _ _ _ _ _ hil] at hb8'
      go_wp2_with (first
        | (refine load_str rfl 37 _ rfl g8 rfl 37 _ hb8' fs hfs (by rw [infoReq, reqCells_len _ _ _ _ _ hil]) ?_)
        | (refine store_blk rfl 37 _ _ rfl g6 _ rfl rfl 37 _ (hbq.setOther (Ne.symm hne6) _) 36 infoReq (reqCells_len _ _ _ _ _ hil) (reqCells_len _ _ _ _ _ (by simp)) (reqCells_one _ _ _ _ _ rfl) ?_) | fail)
      refine bodyPost_ret (results_str2 rfl _ _ g6 37 _ _ fs rfl rfl ((hbq.setOther (Ne.symm hne6) _).setRow _) hfs (by rw [infoReq, reqCells_len _ _ _ _ _ hil])) rfl ?_
      exact ⟨0, xs.length, noSl, rfl, below_setRow (hbelow.setCell (by show w.heap.size ≤ g8; omega) _) hg6B _, ⟨fun _ => rfl, fun h => absurd rfl h, fun h => absurd h (by decide), fun _ => rfl⟩, fun _ => rfl, fun h => absurd h (by decide)⟩
    by_cases hp2 : p = 2
    · subst hp2
      have k33 : wq.cell? ⟨g8, 33, none⟩ = some (.int .u32 0) := by rw [hb8.cell 33, req33 _ _ _ _ _ hil]
      have f33 := hb8.frozen 33
      have hbA := hb8.set 33 (.int .u32 a)
      rw [set33 _ _ _ _ _ _ hil] at hbA
      have ca := (hgw.below hS hgB).cell 1
      simp only [ints, List.map_cons, List.getElem?_cons_succ, List.getElem?_cons_zero] at ca
      have ca' : (wq.setCell ⟨g8, 33, none⟩ (.int .u32 a)).cell? ⟨g, 1, none⟩ = some (.int .i64 a) := by
        exact (World.cell?_setCell_other wq ⟨g8, 33, none⟩ ⟨g, 1, none⟩ _ (fun h => by have := congrArg Addr.block h; simp at this; omega)).trans ca
      have hw : IntKind.u32.wrap (a : Int) = a := by rw [IntKind.wrap_u32]; omega
      have hmx : (if (a : Int) < 0 then (0 : Int) else a) = a := by rw [if_neg (by omega)]
      obtain ⟨f, hf⟩ : ∃ f : Nat, f = min a xs.length := ⟨_, rfl⟩
      obtain ⟨k, hk⟩ : ∃ k : Nat, k = min 200 (xs.length - f) := ⟨_, rfl⟩
      have HF := hid hf
      have HK := hid hk
      have hfl : (f : Int) ≤ xs.length := by omega
      have hf0 : (0 : Int) ≤ f := by omega
      have hfc : (f : Int) ≤ c := by omega
      have hmn : (if (xs.length : Int) < a then (xs.length : Int) else a) = f := by split <;> omega
      have hmn' : (if xs.length < a then (xs.length : Int) else a) = f := by split <;> omega
      obtain ⟨r, hrr⟩ : ∃ r : Nat, r = xs.length - f := ⟨_, rfl⟩
      obtain ⟨u, hu⟩ : ∃ u : Nat, u = f + k := ⟨_, rfl⟩
      have hsub : IntKind.i64.wrap ((xs.length : Int) - f) = (r : Int) := by rw [IntKind.wrap_i64]; omega
      have hmk : (if (r : Int) < 200 then (r : Int) else 200) = k := by split <;> omega
      have hmk' : (if r < 200 then (r : Int) else 200) = k := by split <;> omega
      have hadd : IntKind.i64.wrap ((f : Int) + k) = (u : Int) := by rw [IntKind.wrap_i64]; omega
      have HU := hid hu
      have hfu : (f : Int) ≤ u := by omega
      have huc : (u : Int) ≤ c := by omega
      have hrd := (hr.below ((Below.refl _ _).alloc (Nat.le_refl _) (.cells (ints .u8 ids).toArray 32))).below hB6
      have hrq : Rd wq A .u8 xs := hrd.below (by rw [hB.out]; exact hS)
      have hrs : Rd (wq.setCell ⟨g8, 33, none⟩ (.int .u32 a)) A .u8 xs := hrd.below (((by rw [hB.out]; exact hS : Below wx.heap.size wx wq)).setCell (by show _ ≤ g8; rw [hB.out]; exact hge) _)
      have hkl : u - f = ((xs.drop f).take k).length := by rw [List.length_take, List.length_drop]; omega
      have hr2 := (hrs.drop f c (by omega) hc).take k
      obtain ⟨A2, hA2⟩ : ∃ A2, (if c = f then A else A.map (·.add f)) = A2 := ⟨_, rfl⟩
      have hAc : A2 = none → c - f = 0 := by
        intro h; rw [h] at hA2
        have : A = none := by
          split at hA2
          · exact hA2
          · cases A <;> simp_all
        have := hA this; omega
      rw [hA2] at hr2
      obtain ⟨zs, hzs⟩ : ∃ zs, zs = (xs.drop f).take k := ⟨_, rfl⟩
      rw [← hzs] at hr2 hkl
      have HR2 := hid hr2
      have HZ := hid hzs
      have HAC := hid hAc
      have HKL := hid hkl
      have HKQ : Hd (zs.length ≤ 1000000000) := by refine ⟨?_⟩; rw [hzs]; rw [List.length_take, List.length_drop]; omega
      have HS8 : Hd (g < g8) := ⟨by omega⟩
      clear hzs hrr hu hr2 hAc hkl hrs hrq hrd
      clear hf hk
      go_wp2_with (first
        | (go_at_call 11; refine (clone_calls A2 (u - f) (c - f) _ _ HKL.out HAC.out HR2.out HKQ.out).mono ?_; rintro e wc ⟨vc, rfl, hoc, hbc⟩
           obtain ⟨A3, c3, hv3, _, _, _⟩ := hoc.slice
           subst hv3
           replace hoc := hid hoc
           have hb8c := hbA.belowAll hbc
           have hb6c := (hbq.setOther (a := ⟨g8, 33, none⟩) (Ne.symm hne6) (.int .u32 a)).belowAll hbc
           have k35 : wc.cell? ⟨g8, 35, none⟩ = some noSl := by rw [hb8c.cell 35, req35 _ _ _ _ _ hil]
           have f35 := hb8c.frozen 35
           have hbD := hb8c.set 35 (.slice A3 zs.length c3)
           rw [set35 _ _ _ _ _ _ hil] at hbD)
        | (refine load_str rfl 37 _ rfl g8 rfl 37 _ hbD fs hfs (by rw [infoReq, reqCells_len _ _ _ _ _ hil]) ?_)
        | (refine store_blk rfl 37 _ _ rfl g6 _ rfl rfl 37 _ (hb6c.setOther (Ne.symm hne6) _) 36 infoReq (reqCells_len _ _ _ _ _ hil) (reqCells_len _ _ _ _ _ (by simp)) (reqCells_one _ _ _ _ _ rfl) ?_) | fail)
      refine bodyPost_ret (results_str2 rfl _ _ g6 37 _ _ fs rfl rfl ((hb6c.setOther (Ne.symm hne6) _).setRow _) hfs (by rw [infoReq, reqCells_len _ _ _ _ _ hil])) rfl ?_
      have hsz := hS.size
      rw [hB.out] at hsz
      have hq8 := hb8.lt
      have hn8 : (Value.slice A3 zs.length c3).ownBlock ≠ some g8 := hoc.out.ne_lt (by simpa using hq8)
      have hn6 : (Value.slice A3 zs.length c3).ownBlock ≠ some g6 := hoc.out.ne_lt (by have := hbq.lt; simpa using this)
      have h8w : w.heap.size ≤ g8 := by omega
      have hbW : Below w.heap.size w wc := below_then (hbelow.setCell (by show w.heap.size ≤ g8; exact h8w) _) (by simp; omega) hbc
      refine ⟨a, 0, _, rfl, below_setRow (hbW.setCell (by show w.heap.size ≤ g8; exact h8w) _) hg6B _, ⟨fun h => absurd h (by decide), fun _ => rfl, fun _ => rfl, fun h => absurd rfl h⟩, ?_⟩
      rw [← HF.out, ← HK.out, ← HZ.out]
      exact ((hoc.out.lower (by simp; omega)).setOther (fun h => hn8 h.symm) _).setRowOther hn6 _
    have e1 : ((p : Int) == 1) = false := by rw [beq_eq_false_iff_ne]; omega
    have e2 : ((p : Int) == 2) = false := by rw [beq_eq_false_iff_ne]; omega
    go_wp2_with (first
      | (refine load_str rfl 37 _ rfl g8 rfl 37 _ hb8 fs hfs (by rw [infoReq, reqCells_len _ _ _ _ _ hil]) ?_)
      | (refine store_blk rfl 37 _ _ rfl g6 _ rfl rfl 37 _ hbq 36 infoReq (reqCells_len _ _ _ _ _ hil) (reqCells_len _ _ _ _ _ (by simp)) (reqCells_one _ _ _ _ _ rfl) ?_) | fail)
    refine bodyPost_ret (results_str2 rfl _ _ g6 37 _ _ fs rfl rfl (hbq.setRow _) hfs (by rw [infoReq, reqCells_len _ _ _ _ _ hil])) rfl ?_
    exact ⟨0, 0, noSl, rfl, below_setRow hbelow hg6B _, ⟨fun h => absurd h hp1, fun _ => rfl, fun h => absurd h hp2, fun _ => rfl⟩, fun _ => rfl, fun h => absurd h hp2⟩
end Go.Proofs.Ytabpkcjnbhandaa
