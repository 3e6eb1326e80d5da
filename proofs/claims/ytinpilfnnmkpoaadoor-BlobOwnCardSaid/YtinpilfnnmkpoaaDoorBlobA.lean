/- The relay's store in memory; one of its blobs found. -/
import Derived.Test.YtinpilfnnmkpoaaDoorProg
import Derived.Test.YtinpilfnnmkpoaaDoorChecked
import Derived.Test.YtinpilfnnmkpoaaDoorSep
import Derived.Test.YtinpilfnnmkpoaaDoorFacts
namespace Go.Proofs.YtinpilfnnmkpoaaDoor
open Go.RowKit Go.Cour
structure Item where
  id : List Int
  n : Int
  b : List Int
  done : Bool
  age : Int
def itemC (x : Item) (vb : Value) : List Value := ints .u8 x.id ++ [.int .i64 x.n, vb, .bool x.done, .int .i64 x.age]
theorem itemC_length (x : Item) (vb : Value) (h : x.id.length = 32) : (itemC x vb).length = 36 := by simp [itemC, h]
theorem itemC_at (x : Item) (vb : Value) (h : x.id.length = 32) (i : Nat) : (itemC x vb)[32 + i]? = [Value.int .i64 x.n, vb, .bool x.done, .int .i64 x.age][i]? := by
  have : (ints .u8 x.id).length = 32 := by simp [h]
  rw [itemC, List.getElem?_append_right (by omega), this, Nat.add_sub_cancel_left]
theorem itemC_id (x : Item) (vb : Value) (j : Nat) (v : Value) (hv : (ints .u8 x.id)[j]? = some v) : (itemC x vb)[j]? = some v := by
  have hl := (List.getElem?_eq_some_iff.1 hv).1
  rw [itemC, List.getElem?_append_left hl, hv]
/-- A blob in memory: its own block, and its bytes'. -/
structure ItemAt (w : World) (F : Nat → Prop) (v : Value) (x : Item) (g : Nat) (vb : Value) : Prop where
  hv : v = .pointer (some ⟨g, 0, none⟩)
  idl : x.id.length = 32
  blk : Blk w g 62 (itemC x vb)
  own : Own w 0 5 .u8 vb x.b
  foot : ∀ k, F k ↔ k = g ∨ vb.ownBlock = some k
def itemH : HA Item where
  at_ w F v x := ∃ g vb, ItemAt w F v x g vb
  lt := by
    rintro w F v x ⟨g, vb, h⟩ k hk
    rcases (h.foot k).1 hk with rfl | hk
    · exact h.blk.lt
    · exact h.own.lt_size k hk
  kept := by
    rintro w w' F v x ⟨g, vb, h⟩ hk
    exact ⟨g, vb, h.hv, h.idl, (hk g ((h.foot g).2 (.inl rfl))).trans h.blk, h.own.kept' (fun j hj => hk j ((h.foot j).2 (.inr hj))), h.foot⟩
  eqv := by
    rintro w F G v x ⟨g, vb, h⟩ hk
    exact ⟨g, vb, h.hv, h.idl, h.blk, h.own, fun k => (hk k).symm.trans (h.foot k)⟩
structure StoreD where
  quota : Int
  life : Int
  l : List Item
/-- The store in memory: its block, its slice's, its blobs'. -/
structure StoreAt (w : World) (F : Nat → Prop) (gs : Nat) (st : StoreD) (v : Value) (vs : List Value) (F2 : Nat → Prop) : Prop where
  blk : Blk w gs 58 [.int .i64 st.quota, .int .i64 st.life, v]
  own : OwnV w 0 59 v vs
  star : Star itemH w F2 vs st.l
  apart : ¬ F2 gs ∧ ∀ k, v.ownBlock = some k → ¬ F2 k
  foot : ∀ k, F k ↔ k = gs ∨ v.ownBlock = some k ∨ F2 k
section
variable {w w' : World} {F F2 G : Nat → Prop} {gs : Nat} {st : StoreD} {v : Value} {vs : List Value}
theorem StoreAt.kept (h : StoreAt w F gs st v vs F2) (hk : ∀ k, F k → w'.heap[k]? = w.heap[k]?) : StoreAt w' F gs st v vs F2 :=
  ⟨(hk gs ((h.foot gs).2 (.inl rfl))).trans h.blk, h.own.kept' (fun j hj => hk j ((h.foot j).2 (.inr (.inl hj)))), h.star.kept (fun j hj => hk j ((h.foot j).2 (.inr (.inr hj)))), h.apart, h.foot⟩
theorem StoreAt.lt (h : StoreAt w F gs st v vs F2) (k : Nat) (hk : F k) : k < w.heap.size := by
  rcases (h.foot k).1 hk with rfl | hk | hk
  · exact h.blk.lt
  · exact h.own.lt_size k hk
  · exact h.star.lt k hk
theorem StoreAt.below (h : StoreAt w F gs st v vs F2) (hb : Below w.heap.size w w') : StoreAt w' F gs st v vs F2 := h.kept fun k hk => hb.block k (h.lt k hk)
theorem StoreAt.drew (h : StoreAt w F gs st v vs F2) : StoreAt w.drew F gs st v vs F2 := h.below (below_drewN (Below.refl _ _) 1)
theorem StoreAt.upd (h : StoreAt w F gs st v vs F2) (hu : Upd G w w') (hd : ∀ k, F k → ¬ G k) : StoreAt w' F gs st v vs F2 := h.kept fun k hk => hu.block k (h.lt k hk) (hd k hk)
end
theorem arrHash : Tryd.prog.underlying 30 = some (.array 32 5) := by kernel_rfl
theorem infoHash : (Tryd.prog.info? 30).map (·.size) = some 32 := by kernel_rfl
theorem undU8B : Tryd.prog.underlying 5 = some (.int .u8) := by kernel_rfl
theorem sizeU8B : (Tryd.prog.info? 5).map (·.size) = some 1 := by kernel_rfl
theorem undStore : ∃ fs, Tryd.prog.underlying 58 = some (.struct fs) := ⟨_, Tryd.underlying58⟩
set_option maxHeartbeats 1000000 in
set_option maxRecDepth 100000 in
/-- Is this blob that one? -/
theorem at1_calls {w : World} {F : Nat → Prop} {v : Value} {x : Item} {g gb : Nat} {vb : Value} (id : List Int) (h : ItemAt w F v x g vb) (hb : Blk w gb 30 (ints .u8 id)) (hid' : id.length = 32) :
    Calls Tryd.prog 44 #[.pointer (some ⟨g, 0, none⟩), .pointer (some ⟨gb, 0, none⟩)] w fun e w' => e = .returned (.bool (decide (x.id = id))) ∧ ∃ q, w' = w.drewN q := by
  have HI := hid hid'
  have hE := fun w => run_equalIn_ints (P := Tryd.prog) w 9998 30 5 32 .u8 arrHash undU8B sizeU8B x.id id h.idl HI.out
  go_enter Tryd.func44, Tryd.ntmps44
  go_wp2_with fail
  refine wp_region_facts (ix := [[0], [1], [2], [3], [4], [5], [6]]) (S := fun w' => ItemAt w' F v x g vb ∧ Blk w' gb 30 (ints .u8 id) ∧ ∃ q, w' = w.drewN q)
    (R := fun w1 w2 => Below w1.heap.size w1 w2)
    (p := fun jO vs w' => match jO with
      | 0 => vs 0 = .pointer (some ⟨g, 0, none⟩)
      | 1 => vs 1 = .pointer (some ⟨g, 0, none⟩)
      | 2 => vs 2 = .pointer (some ⟨g, 0, none⟩)
      | 3 => vs 3 = .agg (ints .u8 x.id).toArray
      | 4 => vs 4 = .agg (ints .u8 id).toArray
      | 5 => vs 5 = .bool (decide (x.id = id))
      | 6 => vs 6 = .bool (decide (x.id = id))
      | _ => True)
    (by kernel_rfl) (by kernel_rfl) ?_ ?_ ?_ ?_
  · exact ⟨⟨h.hv, h.idl, h.blk.drew, h.own.drew, h.foot⟩, hb.drew, 1, rfl⟩
  · intro jO vs w1 w2 hR h
    match jO with
    | 0 | 1 | 2 | 3 | 4 | 5 | 6 => exact h
    | nO + 7 => trivial
  · refine ⟨?_, ?_, ?_, ?_, ?_, ?_, ?_, trivial⟩
    · (intro vs w2 hS hd; simp [Region.binds, Fact.at] at hd; simp only [fill, List.take_succ_cons, List.take_zero, Act.put, List.setIfInBounds_toArray, List.set_cons_zero, List.set_cons_succ, Nat.reduceAdd])
      go_wp2_with fail
      exact ⟨rfl, rfl, hS, Below.refl _ _⟩
    · (intro vs w2 hS hd; simp [Region.binds, Fact.at] at hd; simp only [fill, List.take_succ_cons, List.take_zero, Act.put, List.setIfInBounds_toArray, List.set_cons_zero, List.set_cons_succ, Nat.reduceAdd])
      simp only [hd]
      go_wp2_with fail
      exact ⟨rfl, rfl, hS, Below.refl _ _⟩
    · (intro vs w2 hS hd; simp [Region.binds, Fact.at] at hd; simp only [fill, List.take_succ_cons, List.take_zero, Act.put, List.setIfInBounds_toArray, List.set_cons_zero, List.set_cons_succ, Nat.reduceAdd])
      try simp only [hd]
      go_wp2_with fail
      exact ⟨rfl, rfl, hS, Below.refl _ _⟩
    · (intro vs w2 hS hd; simp [Region.binds, Fact.at] at hd; simp only [fill, List.take_succ_cons, List.take_zero, Act.put, List.setIfInBounds_toArray, List.set_cons_zero, List.set_cons_succ, Nat.reduceAdd])
      try simp only [hd]
      go_wp2_with (first
        | (refine load_in rfl 30 _ rfl g 0 rfl (ints .u8 x.id) (fun j v hv => by rw [hS.1.blk.cell, Nat.zero_add]; exact itemC_id _ _ j v hv) 32 5 arrHash (by simp [ints, h.idl]) infoHash ?_)
        | fail)
      exact ⟨rfl, rfl, hS, Below.refl _ _⟩
    · (intro vs w2 hS hd; simp [Region.binds, Fact.at] at hd; simp only [fill, List.take_succ_cons, List.take_zero, Act.put, List.setIfInBounds_toArray, List.set_cons_zero, List.set_cons_succ, Nat.reduceAdd])
      try simp only [hd]
      go_wp2_with (first
        | (refine load_blk rfl 30 _ rfl gb rfl 30 _ hS.2.1 32 5 arrHash (by simp [ints, HI.out]) infoHash ?_)
        | fail)
      exact ⟨rfl, rfl, hS, Below.refl _ _⟩
    · (intro vs w2 hS hd; simp [Region.binds, Fact.at] at hd; simp only [fill, List.take_succ_cons, List.take_zero, Act.put, List.setIfInBounds_toArray, List.set_cons_zero, List.set_cons_succ, Nat.reduceAdd])
      try simp only [hd]
      go_wp2_with fail
      exact ⟨rfl, rfl, hS, Below.refl _ _⟩
    · (intro vs w2 hS hd; simp [Region.binds, Fact.at] at hd; simp only [fill, List.take_succ_cons, List.take_zero, Act.put, List.setIfInBounds_toArray, List.set_cons_zero, List.set_cons_succ, Nat.reduceAdd])
      simp only [hd]
      go_wp2_with fail
      exact ⟨rfl, rfl, hS, Below.refl _ _⟩
  · intro vs wq hf hS
    have f6 : vs 6 = .bool (decide (x.id = id)) := hf 6 (by simp)
    simp only [fill, Act.put, List.setIfInBounds_toArray, List.set_cons_zero, List.set_cons_succ, Nat.reduceAdd]
    simp only [f6]
    clear hf f6
    try generalize vs 0 = x1_0
    try generalize vs 1 = x1_1
    try generalize vs 2 = x1_2
    try generalize vs 3 = x1_3
    try generalize vs 4 = x1_4
    try generalize vs 5 = x1_5
    try clear vs
    go_wp2_with fail
    go_ret
    exact ⟨rfl, hS.2.2⟩
end Go.Proofs.YtinpilfnnmkpoaaDoor
