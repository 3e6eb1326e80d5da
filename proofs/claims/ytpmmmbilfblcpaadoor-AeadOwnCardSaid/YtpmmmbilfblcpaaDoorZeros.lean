/- append(s, make([]T, n)...): numbers, zeros behind them. -/
import Derived.Test.YtpmmmbilfblcpaaDoorBase
import Derived.Lib.AppendZerosOnto
namespace Go.Cour
open Go.RowKit
theorem zeroCells_eq (k : IntKind) (n : Nat) : Builtin.zeroCells (Value.int k 0).cells n = (ints k (List.replicate n 0)).toArray := by
  apply Array.toList_inj.1
  have : Builtin.zeroCells (Value.int k 0).cells n = madeCells #[Value.int k 0] n := by simp [Builtin.zeroCells, madeCells, Value.cells]
  rw [this, toList_madeCells_one]
  simp [ints]
theorem growslice_le {old need bytes : Nat} (h : old < need) (hb : need * bytes ≤ 140737488355328) : Builtin.nextslicecap need old * bytes ≤ 281474976710656 := by
  have h1 := nextslicecap_le h
  calc Builtin.nextslicecap need old * bytes ≤ (2 * need) * bytes := Nat.mul_le_mul_right _ h1
    _ = 2 * (need * bytes) := Nat.mul_assoc _ _ _
    _ ≤ 281474976710656 := by omega
theorem run_append_zeros {P : Program} (w : World) (t tn ty e : TypeId) (k kq kn : IntKind) (bytes : Nat) (ht : P.underlying t = some (.slice e)) (htn : P.underlying tn = some (.int kn))
    (hi : (P.info? e).map (fun i => (i.zero, i.size, i.bytes)) = some (some (.int k 0), 1, bytes))
    (base : Nat) (v : Value) (xs : List Int) (hown : Own w base e k v xs) (m : Nat) (hbytes : (xs.length + m) * bytes ≤ 140737488355328) (h63 : xs.length + m ≤ 140737488355328) (hbase : base ≤ w.heap.size) :
    ∃ v' w', (Builtin.append_ #[t, tn] ty #[v, .int kq m]).run P w = .ok v' w' ∧ Own w' base e k v' (xs ++ List.replicate m 0) ∧ w.grownBy w' v.ownBlock := by
  obtain ⟨i, hi0, hz0, hz1, hz2⟩ := info_parts hi
  subst hz2
  have hmb : m * i.bytes ≤ 281474976710656 := Nat.le_trans (Nat.mul_le_mul_right _ (Nat.le_add_left _ _)) (Nat.le_trans hbytes (by omega))
  have hw : IntKind.i64.wrap (m : Int) = m := by rw [IntKind.wrap_i64]; omega
  have hneg : ¬ ((m : Int) < 0) := by omega
  have h48i : ¬ (281474976710656 < (m : Int) * (i.bytes : Int)) := by
    rw [← Int.natCast_mul]; omega
  have hw0 : IntKind.i64.wrap 0 = 0 := by rw [IntKind.wrap_i64]; rfl
  have hlen : (ints k (xs ++ List.replicate m 0)).length = (xs ++ List.replicate m 0).length * 1 := by simp [ints]
  by_cases hm : m = 0
  · subst hm
    refine ⟨v, w, ?_, by simpa using hown, ⟨rfl, rfl, rfl, Nat.le_refl _, fun _ _ _ => rfl⟩⟩
    rcases hown.2 with ⟨rfl, hx⟩ | ⟨g, cap, cur, rfl, hbg, hg, hnc, hcm, hcs, htake⟩
    · simp [Builtin.append_, run_underlying ht, run_underlying htn, sizeOf, typeInfo, hi0, asInt, asIntOf, hw0, hx]
    · simp [Builtin.append_, run_underlying ht, run_underlying htn, sizeOf, typeInfo, hi0, asInt, asIntOf, hw0, hnc, storeCells]
  · have hgrow : ∀ (base0 : Option Addr) (cap : Nat), (Builtin.firstCells i.size xs.length (.slice base0 xs.length cap)).run P w.drew = .ok (ints k xs).toArray w.drew → cap < xs.length + m →
        ∃ v' w', (Builtin.append_ #[t, tn] ty #[.slice base0 xs.length cap, .int kq m]).run P w = .ok v' w' ∧ Own w' base e k v' (xs ++ List.replicate m 0) ∧ ∀ row, w.grownBy w' row := by
      intro base0 cap hf hcap
      have hr := Lib.run_append_grow_zeros (P := P) w t tn ty e i (.int k 0) kq kn ht htn hi0 hz0 base0 xs.length cap (ints k xs) hf m (by omega) (by omega) hcap (by omega) hmb (growslice_le hcap hbytes)
      rw [zeroCells_eq, zeroCells_eq] at hr
      have hge := grownCap_ge w (xs.length + m) cap e
      have hcm : grownCap w (xs.length + m) cap e ≤ maxLen := grownCap_le_maxLen w (xs.length + m) cap e (by unfold maxLen; omega)
      refine ⟨_, _, hr, ⟨hlen, .inr ⟨w.heap.size, _, _, ?_, hbase, heap_alloc_new w.drew _, ?_, hcm, ?_, ?_⟩⟩, fun row => ⟨rfl, rfl, rfl, by simp, fun j hj _ => heap_alloc_old w.drew _ hj⟩⟩
      · simp
      · simpa using hge
      · simp [ints]; omega
      · simp only [Array.toList_append, Nat.mul_one]
        rw [ints_append, List.take_append_of_le_length (by simp [ints])]
        exact List.take_of_length_le (by simp [ints])
    rcases hown.2 with ⟨rfl, hx⟩ | ⟨g, cap, cur, rfl, hbg, hg, hnc, hcm, hcs, htake⟩
    · have hxs : xs = [] := List.length_eq_zero_iff.1 hx
      subst hxs
      obtain ⟨v', w', h1, h2, h3⟩ := hgrow none 0 (by simp [Builtin.firstCells, ints]) (by simp; omega)
      exact ⟨v', w', h1, h2, h3 _⟩
    · by_cases hroom : xs.length + m ≤ cap
      · have hst := run_storeCells_at (P := P) g xs.length e (ints k (List.replicate m 0)) 0 cur w hg (by simp [ints]; omega) (fun u hu => by
          obtain ⟨x, _, rfl⟩ := List.mem_map.1 hu; rfl)
        refine ⟨.slice (some ⟨g, 0, none⟩) (xs.length + m) cap, w.setRow g (cur.toList.take (xs.length + 0) ++ ints k (List.replicate m 0) ++ cur.toList.drop (xs.length + 0 + (ints k (List.replicate m 0)).length)).toArray, ?_, ⟨hlen, .inr ⟨g, cap, _, by simp, hbg, setRow_heap w g cur _ e (0, 0) hg, by simpa using hroom, hcm, ?_, ?_⟩⟩, ⟨rfl, rfl, rfl, by simp [World.setRow], fun j _ hj => setRow_other w g j _ (fun he => hj (by simp [Value.ownBlock, he]))⟩⟩
        · simp [Builtin.append_, run_underlying ht, run_underlying htn, sizeOf, typeInfo, zeroValue, hi0, hz0, hz1, asInt, asIntOf, hw, hneg, h48i, hroom, hm, zeroCells_eq, add_lit, hst]
        · simp [ints]; omega
        · have htk : cur.toList.take xs.length = ints k xs := by simpa using htake
          simp only [Nat.add_zero, Nat.mul_one]
          rw [htk, ints_append, List.take_append_of_le_length (by simp [ints])]
          exact List.take_of_length_le (by simp [ints])
      · have holds : ∀ (j : Nat) u, (ints k xs)[j]? = some u → w.cell? ((⟨g, 0, none⟩ : Addr).add j) = some u := World.ownsRow.cells (g := g) hown rfl
        obtain ⟨v', w', h1, h2, h3⟩ := hgrow (some ⟨g, 0, none⟩) cap (by
          have h9 := run_firstCells_some (P := P) w.drew i.size xs.length ⟨g, 0, none⟩ xs.length cap (ints k xs) (by simp [ints, hz1]) (by simpa using holds)
          exact h9) (by omega)
        exact ⟨v', w', h1, h2, h3 _⟩
/-- append(s, make([]T, n)...): s the call's own. -/
theorem append_zeros {P : Program} {w : World} {ops : Array Oper} {rest : List Oper} {o : Oper} {a : Act} {Q : Exit → Act → World → Prop} (hgd : o.guard = none) (s x : Operand) (t tn : TypeId)
    (ho : o.op = .call { callee := .builtin .append, args := #[s, x], argTypes := #[t, tn] })
    (base : Nat) (e : TypeId) (k kq kn : IntKind) (bytes : Nat) (ht : P.underlying t = some (.slice e)) (htn : P.underlying tn = some (.int kn)) (hi : (P.info? e).map (fun i => (i.zero, i.size, i.bytes)) = some (some (.int k 0), 1, bytes))
    (v : Value) (xs : List Int) (hs : a.eval s = v) (hown : Own w base e k v xs) (m : Nat) (hx : a.eval x = .int kq m)
    (hbytes : (xs.length + m) * bytes ≤ 140737488355328) (h63 : xs.length + m ≤ 140737488355328) (hbase : base ≤ w.heap.size)
    (h : ∀ v' w', Own w' base e k v' (xs ++ List.replicate m 0) → w.grownBy w' v.ownBlock → wpList P ops Q rest (a.put o.dst v') w') : wpList P ops Q (o :: rest) a w := by
  obtain ⟨v', w', hr, h1, h2⟩ := run_append_zeros (P := P) w t tn o.type e k kq kn bytes ht htn hi base v xs hown m hbytes h63 hbase
  exact Lib.wpList_append_run w hgd s x t tn ho v (.int kq m) hs hx v' w' hr (h v' w' h1 h2)
end Go.Cour
