/- The law BlobRoom. -/
import Derived.Test.YtinpilfnnmkpoaaDoorBlobK
namespace Go.Proofs.YtinpilfnnmkpoaaDoor
open Go.RowKit Go.Cour
/-- Blob number j of the law's. -/
def rItem (n : Int) (a : Int) (m j : Nat) : Item := ⟨keyOf j, n, [], false, if j = m then 0 else a⟩
def rL (n a : Int) (m k : Nat) : List Item := (List.range k).map (rItem n a m)
theorem rL_length (n a : Int) (m k : Nat) : (rL n a m k).length = k := by simp [rL]
theorem rL_get {n a : Int} {m k i : Nat} (h : i < k) : (rL n a m k)[i]? = some (rItem n a m i) := by simp [rL, h]
theorem rL_succ (n a : Int) (m k : Nat) : rL n a m (k + 1) = rL n a m k ++ [rItem n a m k] := by simp [rL, List.range_succ]
theorem posOf_unique {id : List Int} {l : List Item} {m : Nat} {x : Item} (hx : l[m]? = some x) (he : x.id = id) (hn : ∀ (j : Nat) (y : Item), j < m → l[j]? = some y → y.id ≠ id) : posOf id l = m := by
  have hl := (List.getElem?_eq_some_iff.1 hx).1
  rcases Nat.lt_trichotomy (posOf id l) m with h | h | h
  · obtain ⟨y, hy⟩ : ∃ y, l[posOf id l]? = some y := ⟨_, List.getElem?_eq_getElem (by omega)⟩
    exact (hn _ y h hy (posOf_eq hy)).elim
  · exact h
  · exact (posOf_ne h hx he).elim
theorem posOf_none {id : List Int} {l : List Item} (hn : ∀ (j : Nat) (y : Item), l[j]? = some y → y.id ≠ id) : posOf id l = l.length := by
  have h1 := posOf_le id l
  rcases Nat.lt_or_ge (posOf id l) l.length with h | h
  · obtain ⟨y, hy⟩ : ∃ y, l[posOf id l]? = some y := ⟨_, List.getElem?_eq_getElem h⟩
    exact (hn _ y hy (posOf_eq hy)).elim
  · omega
theorem rL_none {n a : Int} {m k : Nat} {q : Int} (hq : 0 ≤ q ∧ q < 256) (hk : (k : Int) ≤ q) : posOf (keyOf q) (rL n a m k) = k := by
  rw [posOf_none, rL_length]
  intro j y hy
  have hl := (List.getElem?_eq_some_iff.1 hy).1
  rw [rL_length] at hl
  rw [rL_get hl] at hy
  injection hy with hy
  subst hy
  exact keyOf_ne (by omega) hq (by omega)
theorem rL_pos {n a : Int} {m m' k : Nat} (hm : m < k) (hk : k ≤ 256) : posOf (keyOf m) (rL n a m' k) = m := by
  refine posOf_unique (rL_get hm) rfl fun j y hj hy => ?_
  rw [rL_get (by omega)] at hy
  injection hy with hy
  subst hy
  exact keyOf_ne (by omega) (by omega) (by omega)
theorem rL_used (n a : Int) (m k : Nat) : used (rL n a m k) = k * n := by
  induction k with
  | zero => simp [rL, used]
  | succ k ih =>
    rw [rL_succ]
    have : used (rL n a m k ++ [rItem n a m k]) = used (rL n a m k) + n := by simp [used, rItem]
    rw [this, ih]; push_cast; rw [Int.add_mul, Int.one_mul]
theorem rL_good {n a q life : Int} {m k : Nat} (hn : 1 ≤ n ∧ n ≤ 30000) (hk : k ≤ 16) (hq : 0 ≤ q ∧ q < 4611686018427387904) : Good ⟨q, life, rL n a m k⟩ := by
  have hx : ∀ x ∈ rL n a m k, ∃ j, x = rItem n a m j := fun x hx => by
    obtain ⟨j, _, rfl⟩ := List.mem_map.1 hx; exact ⟨j, rfl⟩
  refine ⟨by simpa [rL_length] using hk, fun x h => ?_, fun x h => ?_, hq⟩
  · obtain ⟨j, rfl⟩ := hx x h; exact hn
  · obtain ⟨j, rfl⟩ := hx x h; simp [rItem]; omega
theorem rL_zero (n : Int) (m m' k : Nat) : rL n 0 m k = rL n 0 m' k := by
  unfold rL; congr 1; funext j; simp [rItem]
/-- A tick, and then the naming of one. -/
theorem rL_tick {n a life q : Int} {m : Nat} (hm : m < 16) (h : a + 1 < life) (ha : 0 ≤ a) (h1 : 1 < life) : touch (keyOf m) (tickL ⟨q, life, rL n a m 16⟩) = rL n (a + 1) m 16 ∧ (tickL ⟨q, life, rL n a m 16⟩).length = 16 := by
  have e : tickL ⟨q, life, rL n a m 16⟩ = (rL n a m 16).map aged := by
    unfold tickL
    refine List.filter_eq_self.2 fun x hx => ?_
    obtain ⟨y, hy, rfl⟩ := List.mem_map.1 hx
    obtain ⟨j, _, rfl⟩ := List.mem_map.1 hy
    by_cases hj : j = m
    · simp [aged, rItem, old, hj]; omega
    · simp [aged, rItem, old, hj]; omega
  have hlen : ((rL n a m 16).map aged).length = 16 := by rw [List.length_map, rL_length]
  refine ⟨?_, by rw [e, hlen]⟩
  rw [e]
  have hg : ∀ j, j < 16 → ((rL n a m 16).map aged)[j]? = some (aged (rItem n a m j)) := fun j hj => by rw [List.getElem?_map, rL_get hj]; rfl
  have hp : posOf (keyOf m) ((rL n a m 16).map aged) = m := posOf_unique (hg m hm) rfl fun j y hj hy => by
    rw [hg j (by omega)] at hy
    injection hy with hy
    subst hy
    exact keyOf_ne (by omega) (by omega) (by omega)
  rw [touch_some (by rw [hp]; exact hg m hm), hp]
  apply List.ext_getElem?
  intro j
  by_cases hj : j < 16
  · rw [rL_get hj]
    by_cases hjm : m = j
    · subst hjm
      rw [List.getElem?_set_self (by rw [hlen]; exact hj)]
      simp [aged, rItem]
    · rw [List.getElem?_set_ne hjm, hg j hj]
      simp [aged, rItem, Ne.symm hjm]
  · rw [List.getElem?_eq_none (by rw [List.length_set, hlen]; omega), List.getElem?_eq_none (by rw [rL_length]; omega)]
/-- The last tick: one alone is left. -/
theorem rL_last {n life q : Int} {m : Nat} (hm : m < 16) (h1 : 1 < life) : tickL ⟨q, life, rL n (life - 1) m 16⟩ = [⟨keyOf m, n, [], false, 1⟩] := by
  have e : (rL n (life - 1) m 16).map aged = (List.range 16).map fun (j : Nat) => (⟨keyOf j, n, [], false, if j = m then 1 else life⟩ : Item) := by
    rw [rL, List.map_map]
    refine List.map_congr_left fun j _ => ?_
    simp only [Function.comp, aged, rItem]
    split <;> simp
  unfold tickL
  simp only
  rw [e, List.filter_map]
  have e2 : (List.range 16).filter ((fun x => !old life x) ∘ fun (j : Nat) => (⟨keyOf j, n, [], false, if j = m then 1 else life⟩ : Item)) = (List.range 16).filter fun j => decide (j = m) := by
    refine List.filter_congr fun j _ => ?_
    simp only [Function.comp, old]
    by_cases hj : j = m
    · simp [hj]; omega
    · simp [hj]
  rw [e2]
  have e3 : (List.range 16).filter (fun j => decide (j = m)) = [m] := by
    have h : m = 0 ∨ m = 1 ∨ m = 2 ∨ m = 3 ∨ m = 4 ∨ m = 5 ∨ m = 6 ∨ m = 7 ∨ m = 8 ∨ m = 9 ∨ m = 10 ∨ m = 11 ∨ m = 12 ∨ m = 13 ∨ m = 14 ∨ m = 15 := by omega
    rcases h with rfl | rfl | rfl | rfl | rfl | rfl | rfl | rfl | rfl | rfl | rfl | rfl | rfl | rfl | rfl | rfl <;> rfl
  rw [e3]
  simp
theorem rL_stat {n a life q : Int} {m : Nat} (hm : m < 16) (h : a + 1 < life) (ha : 0 ≤ a) (h1 : 1 < life) : statOf (keyOf m) (tickL ⟨q, life, rL n a m 16⟩) = (0, false, none) := by
  have e : tickL ⟨q, life, rL n a m 16⟩ = (rL n a m 16).map aged := by
    unfold tickL
    refine List.filter_eq_self.2 fun x hx => ?_
    obtain ⟨y, hy, rfl⟩ := List.mem_map.1 hx
    obtain ⟨j, _, rfl⟩ := List.mem_map.1 hy
    by_cases hj : j = m
    · simp [aged, rItem, old, hj]; omega
    · simp [aged, rItem, old, hj]; omega
  rw [e]
  have hg : ∀ j, j < 16 → ((rL n a m 16).map aged)[j]? = some (aged (rItem n a m j)) := fun j hj => by rw [List.getElem?_map, rL_get hj]; rfl
  have hp : posOf (keyOf m) ((rL n a m 16).map aged) = m := posOf_unique (hg m hm) rfl fun j y hj hy => by
    rw [hg j (by omega)] at hy
    injection hy with hy
    subst hy
    exact keyOf_ne (by omega) (by omega) (by omega)
  unfold statOf
  rw [hp, hg m hm]
  rfl
theorem rL_age {n a : Int} {m k : Nat} (ha : 0 ≤ a ∧ a < 1000000) : ∀ x ∈ rL n a m k, 0 ≤ x.age ∧ x.age < 1000000 := fun x hx => by
  obtain ⟨j, _, rfl⟩ := List.mem_map.1 hx
  simp only [rItem]
  split <;> omega
theorem rL_open {N L Q : Int} {M i : Nat} (hN : 10 ≤ N ∧ N ≤ 99) (hQ : Q = 16 * N) (hi : i < 16) : openE ⟨Q, L, rL N 0 M i⟩ (keyOf i) N = none ∧ openS ⟨Q, L, rL N 0 M i⟩ (keyOf i) N = ⟨Q, L, rL N 0 M (i + 1)⟩ := by
  have h1 : ¬ (N < 1 ∨ 30000 < N) := by omega
  have hp : posOf (keyOf i) (rL N 0 M i) = i := rL_none (by omega) (by omega)
  have h2 : (i : Int) * N ≤ 15 * N := Int.mul_le_mul_of_nonneg_right (by omega) (by omega)
  have h3 : ¬ Q - (i : Int) * N < N := by omega
  have e : rItem N 0 M i = newItem (keyOf i) N := by simp [rItem, newItem]
  constructor
  · simp only [openE, if_neg h1, hp, rL_length, Nat.lt_irrefl, if_false, rL_used, if_neg h3]
    rw [if_neg (by omega)]
  · simp only [openS, if_neg h1, hp, rL_length, Nat.lt_irrefl, if_false, rL_used, if_neg h3]
    rw [if_neg (by omega), rL_succ, e]
theorem rL_full {N L Q : Int} {M : Nat} : openE ⟨Q, L, rL N 0 M 16⟩ (keyOf 99) 1 = some 17 ∧ openS ⟨Q, L, rL N 0 M 16⟩ (keyOf 99) 1 = ⟨Q, L, rL N 0 M 16⟩ := by
  have hp : posOf (keyOf 99) (rL N 0 M 16) = 16 := rL_none (by omega) (by omega)
  constructor
  · simp [openE, hp, rL_length]
  · simp [openS, hp, rL_length]
theorem hash1_ne {a b : Int} (h : a ≠ b) : hash1 a ≠ hash1 b := fun he => h (by injection he)
theorem open1 (q l n : Int) (id : List Int) (hn : 1 ≤ n ∧ n ≤ 30000) (hq : n ≤ q) : openE ⟨q, l, []⟩ id n = none ∧ openS ⟨q, l, []⟩ id n = ⟨q, l, [newItem id n]⟩ := by
  have h1 : ¬ (n < 1 ∨ 30000 < n) := by omega
  constructor
  · simp [openE, posOf, used, h1]; omega
  · simp [openS, posOf, used, h1]; omega
theorem open2 {q l n m : Int} {i j : List Int} (hij : i ≠ j) (hn : 1 ≤ n ∧ n ≤ 30000) (hq : m + n ≤ q) : openE ⟨q, l, [newItem i m]⟩ j n = none ∧ openS ⟨q, l, [newItem i m]⟩ j n = ⟨q, l, [newItem i m, newItem j n]⟩ := by
  have h1 : ¬ (n < 1 ∨ 30000 < n) := by omega
  have hp : posOf j [newItem i m] = 1 := by simp [posOf, isId, newItem, hij, List.findIdx_cons]
  have hu : used [newItem i m] = m := by simp [used, newItem]
  have h3 : ¬ q - m < n := by omega
  constructor
  · simp [openE, hp, hu, h1, h3]
  · simp [openS, hp, hu, h1, h3]
theorem open3 {q l n m p : Int} {i j k : List Int} (hik : i ≠ k) (hjk : j ≠ k) (hn : 1 ≤ n ∧ n ≤ 30000) : (openE ⟨q, l, [newItem i m, newItem j p]⟩ k n = if q - (m + p) < n then some 6 else none) ∧ openS ⟨q, l, [newItem i m, newItem j p]⟩ k n = if q - (m + p) < n then ⟨q, l, [newItem i m, newItem j p]⟩ else ⟨q, l, [newItem i m, newItem j p, newItem k n]⟩ := by
  have h1 : ¬ (n < 1 ∨ 30000 < n) := by omega
  have hp : posOf k [newItem i m, newItem j p] = 2 := by simp [posOf, isId, newItem, hik, hjk, List.findIdx_cons]
  have hu : used [newItem i m, newItem j p] = m + p := by simp [used, newItem]
  constructor
  · simp [openE, hp, hu, h1]
  · simp [openS, hp, hu, h1]
theorem good3 {q l : Int} {xs : List Item} (h : xs.length ≤ 16) (hx : ∀ x ∈ xs, ∃ i n, x = newItem i n ∧ 1 ≤ n ∧ n ≤ 30000) (hq : 0 ≤ q ∧ q < 4611686018427387904) : Good ⟨q, l, xs⟩ :=
  ⟨h, fun x hm => by obtain ⟨i, n, rfl, h1⟩ := hx x hm; exact h1, fun x hm => by obtain ⟨i, n, rfl, h1⟩ := hx x hm; simp [newItem]; omega, hq⟩
/-- Two stores, apart. -/
def TwoS (w0 w : World) (B gs gt : Nat) (s t : StoreD) : Prop := ∃ Fs Ft, Sto w B Fs gs s ∧ Sto w B Ft gt t ∧ (∀ k, Fs k → ¬ Ft k) ∧ Below B w0 w
section
variable {w0 w : World} {B gs gt : Nat} {s t s' : StoreD}
theorem TwoS.below {w' : World} (h : TwoS w0 w B gs gt s t) (hb : Below w.heap.size w w') : TwoS w0 w' B gs gt s t := by
  obtain ⟨Fs, Ft, h1, h2, h3, h4⟩ := h
  exact ⟨Fs, Ft, h1.below hb, h2.below hb, h3, h4.trans (hb.mono h1.2.2)⟩
theorem TwoS.bel (h : TwoS w0 w B gs gt s t) : Below B w0 w := by obtain ⟨Fs, Ft, h1, h2, h3, h4⟩ := h; exact h4
theorem TwoS.left {f : FuncId} {args : Array Value} {R : Ending → Prop} (h : TwoS w0 w B gs gt s t)
    (k : ∀ F, Sto w B F gs s → Calls Tryd.prog f args w fun e w' => R e ∧ ∃ F', Sto w' B F' gs s' ∧ Sub F' F w ∧ Upd F w w' ∧ Below B w w') : Calls Tryd.prog f args w fun e w' => R e ∧ TwoS w0 w' B gs gt s' t := by
  obtain ⟨Fs, Ft, h1, h2, h3, h4⟩ := h
  refine (k Fs h1).mono fun e w' ⟨he, F', h5, h6, h7, h8⟩ => ⟨he, F', Ft, h5, h2.upd h7 (fun j hj hs => h3 j hs hj), fun j hj ht => ?_, h4.trans h8⟩
  rcases h6 j hj with h9 | h9
  · exact h3 j h9 ht
  · have := h2.lt j ht; omega
theorem TwoS.right {f : FuncId} {args : Array Value} {R : Ending → Prop} {t' : StoreD} (h : TwoS w0 w B gs gt s t)
    (k : ∀ F, Sto w B F gt t → Calls Tryd.prog f args w fun e w' => R e ∧ ∃ F', Sto w' B F' gt t' ∧ Sub F' F w ∧ Upd F w w' ∧ Below B w w') : Calls Tryd.prog f args w fun e w' => R e ∧ TwoS w0 w' B gs gt s t' := by
  obtain ⟨Fs, Ft, h1, h2, h3, h4⟩ := h
  refine (k Ft h2).mono fun e w' ⟨he, F', h5, h6, h7, h8⟩ => ⟨he, Fs, F', h1.upd h7 (fun j hj hs => h3 j hj hs), h5, fun j hj ht => ?_, h4.trans h8⟩
  rcases h6 j ht with h9 | h9
  · exact h3 j hj h9
  · have := h1.lt j hj; omega
theorem TwoS.openL {P : Nat → Addr} (id : List Int) (n : Int) {o : Option Nat} (h : TwoS w0 w B gs gt s t) (hE : ErrsAt w0 P B) (hG : Good s) (hid' : id.length = 32) (ho : openE s id n = o ∧ openS s id n = s') :
    Calls Tryd.prog 11 #[.pointer (some ⟨gs, 0, none⟩), .agg (ints .u8 id).toArray, .int .i64 n] w fun e w' => e = .returned (erV P o) ∧ TwoS w0 w' B gs gt s' t :=
  h.left fun F hs => by have := openX id n (hE.below h.bel) hs hG hid'; rw [ho.1, ho.2] at this; exact this
theorem TwoS.openR {P : Nat → Addr} {t' : StoreD} (id : List Int) (n : Int) {o : Option Nat} (h : TwoS w0 w B gs gt s t) (hE : ErrsAt w0 P B) (hG : Good t) (hid' : id.length = 32) (ho : openE t id n = o ∧ openS t id n = t') :
    Calls Tryd.prog 11 #[.pointer (some ⟨gt, 0, none⟩), .agg (ints .u8 id).toArray, .int .i64 n] w fun e w' => e = .returned (erV P o) ∧ TwoS w0 w' B gs gt s t' :=
  h.right fun F hs => by have := openX id n (hE.below h.bel) hs hG hid'; rw [ho.1, ho.2] at this; exact this
theorem TwoS.usedL (h : TwoS w0 w B gs gt s t) (hG : Good s) {u : Int} (hu : used s.l = u) : Calls Tryd.prog 14 #[.pointer (some ⟨gs, 0, none⟩)] w fun e w' => e = .returned (.int .i64 u) ∧ TwoS w0 w' B gs gt s t := by
  have h0 := h
  obtain ⟨Fs, Ft, h1, h2, h3, h4⟩ := h
  refine (usedX h1 hG).mono fun e w' ⟨he, hb⟩ => ⟨by rw [he, hu], h0.below hb⟩
theorem TwoS.usedR (h : TwoS w0 w B gs gt s t) (hG : Good t) {u : Int} (hu : used t.l = u) : Calls Tryd.prog 14 #[.pointer (some ⟨gt, 0, none⟩)] w fun e w' => e = .returned (.int .i64 u) ∧ TwoS w0 w' B gs gt s t := by
  have h0 := h
  obtain ⟨Fs, Ft, h1, h2, h3, h4⟩ := h
  refine (usedX h2 hG).mono fun e w' ⟨he, hb⟩ => ⟨by rw [he, hu], h0.below hb⟩
theorem TwoS.tickL (h : TwoS w0 w B gs gt s t) (hlen : s.l.length ≤ 1000000) (hage : ∀ x ∈ s.l, 0 ≤ x.age ∧ x.age < 1000000) {u : Int} {l : List Item} (hu : (s.l.length : Int) - (Go.Proofs.YtinpilfnnmkpoaaDoor.tickL s).length = u) (hl : Go.Proofs.YtinpilfnnmkpoaaDoor.tickL s = l) :
    Calls Tryd.prog 15 #[.pointer (some ⟨gs, 0, none⟩)] w fun e w' => e = .returned (.int .i64 u) ∧ TwoS w0 w' B gs gt { s with l := l } t :=
  h.left fun F hs => by have := tickX hs hlen hage; rw [hu, hl] at this; exact this
theorem TwoS.statL {P : Nat → Addr} (id : List Int) (h : TwoS w0 w B gs gt s t) (hE : ErrsAt w0 P B) (hid' : id.length = 32) (hlen : s.l.length ≤ 1000000) {l : List Item} {a : Int} {d : Bool} {o : Option Nat} (hs : statOf id s.l = (a, d, o)) (hl : touch id s.l = l) :
    Calls Tryd.prog 16 #[.pointer (some ⟨gs, 0, none⟩), .agg (ints .u8 id).toArray] w fun e w' => e = .returned (.tuple #[.int .i64 a, .bool d, erV P o]) ∧ TwoS w0 w' B gs gt { s with l := l } t :=
  h.left fun F hst => by have := statX id (hE.below h.bel) hst hid' hlen; rw [hs, hl] at this; exact this
end
set_option maxHeartbeats 4000000 in
set_option maxRecDepth 100000 in
theorem blobRoom_calls (n0 life0 named0 : Int) {w : World} {P : Nat → Addr} (hE : Errs w P) :
    Calls Tryd.prog 3 #[.int .i64 n0, .int .i64 life0, .int .i64 named0] w fun e w' => e = .returned (.bool true) ∧ Below w.heap.size w w' := by
  have hEA := ErrsAt.of hE
  have hneq := nil_neqK
  have heql := nil_eqlK
  obtain ⟨N0, hN0, hN0b⟩ : ∃ N0, Hd (n0 % 90 = N0) ∧ 0 ≤ N0 ∧ N0 < 90 := ⟨_, hid rfl, by omega, by omega⟩
  obtain ⟨L0, hL0, hL0b⟩ : ∃ L0, Hd (life0 % 10 = L0) ∧ 0 ≤ L0 ∧ L0 < 10 := ⟨_, hid rfl, by omega, by omega⟩
  obtain ⟨M, hM, hMb⟩ : ∃ M : Nat, Hd (named0 % 16 = (M : Int)) ∧ M < 16 := ⟨(named0 % 16).toNat, hid (by omega), by omega⟩
  obtain ⟨N, hN⟩ : ∃ N, Hd (N0 + 10 = N) := ⟨_, ⟨rfl⟩⟩
  obtain ⟨L, hL⟩ : ∃ L, Hd (L0 + 2 = L) := ⟨_, ⟨rfl⟩⟩
  obtain ⟨Q, hQ⟩ : ∃ Q, Hd (16 * N = Q) := ⟨_, ⟨rfl⟩⟩
  obtain ⟨T, hT⟩ : ∃ T, Hd (2 * N + 1 = T) := ⟨_, ⟨rfl⟩⟩
  have hNb : 10 ≤ N ∧ N ≤ 99 := by have := hN.out; omega
  have hLb : 2 ≤ L ∧ L ≤ 11 := by have := hL.out; omega
  have hQb : Hd (0 ≤ Q ∧ Q < 4611686018427387904) := hid (by have := hQ.out; omega)
  have hTb : Hd (0 ≤ T ∧ T < 4611686018427387904) := hid (by have := hT.out; omega)
  have hmax : max L 1 = L := by omega
  go_enter Tryd.func3, Tryd.ntmps3
  go_wp2_with (first
    | (go_at_call 8; refine (first20_calls hE).mono ?_; rintro e w1 ⟨rfl, hB1⟩)
    | (go_at_call 9; refine (number_calls _ _ _ (by omega) (by omega)).mono ?_; rintro e wz ⟨rfl, rfl⟩; first | rw [hN0.out] | rw [hL0.out])
    | fail)
  rw [hN.out, hL.out, hQ.out]
  refine (newX Q L wz w.heap.size hB1.size).mono ?_
  rintro e w3 ⟨gs, Fs, rfl, hsS, hFs, hB3⟩
  rw [hmax] at hsS
  go_wp2_with fail
  rw [hT.out]
  refine (newX T L w3 w.heap.size (Nat.le_trans hB1.size hB3.size)).mono ?_
  rintro e w4 ⟨gt, Ft, rfl, hsT, hFt, hB4⟩
  rw [hmax] at hsT
  have hTW : TwoS w w4 w.heap.size gs gt ⟨Q, L, rL N 0 M 0⟩ ⟨T, L, []⟩ := ⟨Fs, Ft, hsS.below hB4, hsT, fun k h1 h2 => by have := hsS.lt k h1; have := hFt k h2; omega, (hB1.trans (hB3.mono hB1.size)).trans (hB4.mono (Nat.le_trans hB1.size hB3.size))⟩
  clear hsS hsT hB1 hB3 hB4 hFs hFt
  go_wp2_with fail
  go_loopg [10] 17 (fun kq v10 wr => ∃ i : Nat, i ≤ 16 ∧ v10 = .int .i64 i ∧ Hd (kq + i = 17) ∧ TwoS w wr w.heap.size gs gt ⟨Q, L, rL N 0 M i⟩ ⟨T, L, []⟩)
  case atStart => exact ⟨0, by omega, rfl, hid (by omega), hTW⟩
  case round =>
    clear hTW
    obtain ⟨i, hi, rfl, hq, hTW⟩ := hrel
    by_cases hlt : i < 16
    · have hlt2 : (i : Int) < 16 := by omega
      go_wp2_with (first
        | (go_at_call 12; refine (keyC_calls _ _).mono ?_; rintro e w5 ⟨rfl, hB5⟩; replace hTW := hTW.below hB5)
        | fail)
      refine (hTW.openL (keyOf i) N hEA (rL_good (by omega) (by omega) hQb.out) (keyOf_length _) (rL_open hNb hQ.out.symm hlt)).mono ?_
      rintro e w6 ⟨rfl, hTW⟩
      simp only [erV]
      go_wp2_with fail
      go_roundg (gk - 1)
      case measure => have := hq.out; omega
      case rel => exact ⟨i + 1, by omega, by go_num, hid (by have := hq.out; omega), hTW⟩
    · obtain rfl : i = 16 := by omega
      have hg16 : Good ⟨Q, L, rL N 0 M 16⟩ := rL_good (by omega) (by omega) hQb.out
      go_wp2_with (first
        | (go_at_call 12; refine (keyC_calls _ _).mono ?_; rintro e w5 ⟨rfl, hB5⟩; replace hTW := hTW.below hB5)
        | fail)
      refine (hTW.openL (keyOf 99) 1 hEA hg16 (keyOf_length _) rL_full).mono ?_
      rintro e w6 ⟨rfl, hTW⟩
      simp only [erV]
      obtain ⟨H1, hH1⟩ : ∃ H1, Hd (hash1 1 = H1) := ⟨_, ⟨rfl⟩⟩
      obtain ⟨H2, hH2⟩ : ∃ H2, Hd (hash1 2 = H2) := ⟨_, ⟨rfl⟩⟩
      obtain ⟨H3, hH3⟩ : ∃ H3, Hd (hash1 3 = H3) := ⟨_, ⟨rfl⟩⟩
      have hl1 : H1.length = 32 := by rw [← hH1.out]; exact hash1_length 1
      have hl2 : H2.length = 32 := by rw [← hH2.out]; exact hash1_length 2
      have hl3 : H3.length = 32 := by rw [← hH3.out]; exact hash1_length 3
      have h12 : Hd (H1 ≠ H2) := hid (by rw [← hH1.out, ← hH2.out]; exact hash1_ne (by omega))
      have h13 : Hd (H1 ≠ H3) := hid (by rw [← hH1.out, ← hH3.out]; exact hash1_ne (by omega))
      have h23 : Hd (H2 ≠ H3) := hid (by rw [← hH2.out, ← hH3.out]; exact hash1_ne (by omega))
      go_wp2_with (first
        | (refine build_to rfl 30 _ rfl (ints .u8 (hash1 1)).toArray (by rw [Array.toList_map]; exact builtHash1 1) ?_; rw [hH1.out])
        | fail)
      try rw [hN.out]
      refine (hTW.openR H1 N hEA (good3 (by simp) (fun x hx => by simp at hx) hTb.out) hl1 (open1 T L N H1 (by omega) (by have := hT.out; omega))).mono ?_
      rintro e w7 ⟨rfl, hTW⟩
      simp only [erV]
      go_wp2_with (first
        | (refine build_to rfl 30 _ rfl (ints .u8 (hash1 2)).toArray (by rw [Array.toList_map]; exact builtHash1 2) ?_; rw [hH2.out])
        | fail)
      try rw [hN.out]
      refine (hTW.openR H2 N hEA (good3 (by simp) (fun x hx => by simp at hx; exact ⟨_, _, hx, by omega⟩) hTb.out) hl2 (open2 h12.out (by omega) (by have := hT.out; omega))).mono ?_
      rintro e w8 ⟨rfl, hTW⟩
      simp only [erV]
      have hgt : Good ⟨T, L, [newItem H1 N, newItem H2 N]⟩ := good3 (by simp) (fun x hx => by simp at hx; rcases hx with hx | hx <;> exact ⟨_, _, hx, by omega⟩) hTb.out
      go_wp2_with (first
        | (refine build_to rfl 30 _ rfl (ints .u8 (hash1 3)).toArray (by rw [Array.toList_map]; exact builtHash1 3) ?_; rw [hH3.out])
        | fail)
      have ho3 := open3 (q := T) (l := L) (n := 2) (m := N) (p := N) h13.out h23.out (by omega)
      rw [if_pos (by have := hT.out; omega)] at ho3
      rw [if_pos (by have := hT.out; omega)] at ho3
      refine (hTW.openR H3 2 hEA hgt hl3 ho3).mono ?_
      rintro e w9 ⟨rfl, hTW⟩
      simp only [erV]
      go_wp2_with (first
        | (refine build_to rfl 30 _ rfl (ints .u8 (hash1 3)).toArray (by rw [Array.toList_map]; exact builtHash1 3) ?_; rw [hH3.out])
        | fail)
      have ho4 := open3 (q := T) (l := L) (n := 1) (m := N) (p := N) h13.out h23.out (by omega)
      rw [if_neg (by have := hT.out; omega)] at ho4
      rw [if_neg (by have := hT.out; omega)] at ho4
      refine (hTW.openR H3 1 hEA hgt hl3 ho4).mono ?_
      rintro e w10 ⟨rfl, hTW⟩
      simp only [erV]
      go_wp2_with fail
      refine (is_err_calls 118 (hEA.below hTW.bel).errs 17 (by omega)).mono ?_
      rintro e w11 ⟨rfl, hB11⟩
      replace hTW := hTW.below hB11
      rw [show ((101 : Int) + ((17 : Nat) : Int) == 118) = true by decide]
      go_wp2_with fail
      refine (is_err_calls 107 (hEA.below hTW.bel).errs 6 (by omega)).mono ?_
      rintro e w12 ⟨rfl, hB12⟩
      replace hTW := hTW.below hB12
      rw [show ((101 : Int) + ((6 : Nat) : Int) == 107) = true by decide]
      go_wp2_with fail
      refine (hTW.usedL (u := 16 * N) hg16 (by simp only [rL_used]; rfl)).mono ?_
      rintro e w13 ⟨rfl, hTW⟩
      go_wp2_with fail
      have hgt3 : Good ⟨T, L, [newItem H1 N, newItem H2 N, newItem H3 1]⟩ := good3 (by simp) (fun x hx => by simp at hx; rcases hx with hx | hx | hx <;> exact ⟨_, _, hx, by omega⟩) hTb.out
      refine (hTW.usedR (u := 2 * N + 1) hgt3 (by simp [used, newItem]; omega)).mono ?_
      rintro e w14 ⟨rfl, hTW⟩
      go_wp2_with (first
        | (go_at_call 9; refine (number_calls _ _ _ (by omega) (by omega)).mono ?_; rintro e wz2 ⟨rfl, rfl⟩; rw [hM.out])
        | fail)
      obtain ⟨tt, htt⟩ : ∃ tt : StoreD, tt = ⟨T, L, [newItem H1 N, newItem H2 N, newItem H3 1]⟩ := ⟨_, rfl⟩
      rw [← htt] at hTW
      clear htt hgt hgt3 ho3 ho4 hg16
      go_loopg [16] 13 (fun kq v16 wr => ∃ a : Nat, (a : Int) + 1 ≤ L ∧ v16 = .int .i64 ((a : Int) + 1) ∧ Hd (kq + a = 13) ∧ TwoS w wr w.heap.size gs gt ⟨Q, L, rL N a M 16⟩ tt)
      case atStart => exact ⟨0, by omega, rfl, hid (by omega), by simpa using hTW⟩
      case round =>
        clear hTW
        obtain ⟨a, ha, rfl, hq, hTW⟩ := hrel
        by_cases hlt : (a : Int) + 1 < L
        · obtain ⟨hst1, hst2⟩ := rL_tick (n := N) (q := Q) hMb hlt (by omega) (by omega)
          have hst3 := rL_stat (n := N) (q := Q) hMb hlt (by omega) (by omega)
          obtain ⟨TL, hTL⟩ : ∃ TL, Hd (tickL ⟨Q, L, rL N a M 16⟩ = TL) := ⟨_, ⟨rfl⟩⟩
          rw [hTL.out] at hst1 hst2 hst3
          have HS1 := hid hst1
          have HS2 := hid hst2
          have HS3 := hid hst3
          have ha2 : IntKind.i64.wrap ((a : Int) + 1 + 1) = (a : Int) + 1 + 1 := IntWalk.i64_in _ (by omega)
          clear hst1 hst2 hst3
          go_wp2_with fail
          refine (hTW.tickL (u := 0) (by simp only [rL_length]; omega) (rL_age (by omega)) (by rw [hTL.out]; simp only [rL_length, HS2.out]; rfl) hTL.out).mono ?_
          rintro e w15 ⟨rfl, hTW⟩
          go_wp2_with (first
            | (go_at_call 12; refine (keyC_calls _ _).mono ?_; rintro e w16 ⟨rfl, hB16⟩; replace hTW := hTW.below hB16)
            | fail)
          refine (hTW.statL (keyOf M) hEA (keyOf_length _) (by simp only [HS2.out]; omega) HS3.out HS1.out).mono ?_
          rintro e w17 ⟨rfl, hTW⟩
          simp only [erV]
          go_wp2_with fail
          go_roundg (gk - 1)
          case measure => have := hq.out; omega
          case rel => exact ⟨a + 1, by omega, by go_num, hid (by have := hq.out; omega), by simpa using hTW⟩
        · have haL : (a : Int) = L - 1 := by omega
          have hlast := rL_last (n := N) (q := Q) (life := L) hMb (by omega)
          rw [← haL] at hlast
          have HLAST := hid hlast
          have hlt2 : ¬ (a : Int) + 1 < L := hlt
          clear hlast
          go_wp2_with fail
          refine (hTW.tickL (u := 15) (by simp only [rL_length]; omega) (rL_age (by omega)) (by rw [HLAST.out]; simp only [rL_length]; rfl) HLAST.out).mono ?_
          rintro e w15 ⟨rfl, hTW⟩
          go_wp2_with fail
          obtain ⟨Fs, Ft, hsS, hsT, hdis, hbel⟩ := id hTW
          refine (allX hsS (by simp)).mono ?_
          rintro e w16 ⟨v21, rfl, hoa, hob, hB16⟩
          obtain ⟨A21, c21, hv21, hc21, hcell⟩ := hoa.parts
          obtain ⟨g21, hA21, hcl⟩ := hcell 0 (ints .u8 (keyOf M)) rfl
          subst hA21
          have hv1 : v21 = .slice (some ⟨g21, 0, none⟩) 1 c21 := hv21
          subst hv1
          have HCL := hid (fun (j : Nat) (u : Value) (hu : (ints .u8 (keyOf M))[j]? = some u) => by have := hcl j u hu; rwa [Nat.zero_mul, Nat.zero_add] at this)
          replace hTW := (hTW.below hB16).below (below_drewN (Below.refl _ _) 1)
          clear hsS hsT hoa hob hcell hcl hv21
          have hg1 : Good ⟨Q, L, [⟨keyOf M, N, [], false, 1⟩]⟩ := ⟨by simp, fun x hx => by simp at hx; subst hx; exact ⟨by simp only; omega, by simp only; omega⟩, fun x hx => by simp at hx; subst hx; simp only [List.length_nil]; omega, hQb.out⟩
          have hol : openE ⟨Q, L, [⟨keyOf M, N, [], false, 1⟩]⟩ (keyOf 99) 1 = none ∧ openS ⟨Q, L, [⟨keyOf M, N, [], false, 1⟩]⟩ (keyOf 99) 1 = ⟨Q, L, [⟨keyOf M, N, [], false, 1⟩, newItem (keyOf 99) 1]⟩ := by
            have hne : keyOf M ≠ keyOf 99 := keyOf_ne (by omega) (by omega) (by omega)
            have hp : posOf (keyOf 99) [⟨keyOf M, N, [], false, 1⟩] = 1 := by simp [posOf, isId, hne, List.findIdx_cons]
            have hu : used [⟨keyOf M, N, [], false, 1⟩] = N := by simp [used]
            have h3 : ¬ Q - N < 1 := by have := hQ.out; omega
            constructor
            · simp [openE, hp, hu, h3]
            · simp [openS, hp, hu, h3]
          have hE1 := fun w => run_equalIn_ints (P := Tryd.prog) w 9998 30 5 32 .u8 arrHash undU8B sizeU8B (keyOf M) (keyOf M) (keyOf_length _) (keyOf_length _)
          go_wp2_with fail
          have hT := (show ∀ (j : Nat) (u : Value), (ints .u8 (keyOf M))[j]? = some u → w16.drew.cell? ⟨g21, j, none⟩ = some u from HCL.out)
          refine wp_region_T (T := fun w' => ∀ (j : Nat) (u : Value), (ints .u8 (keyOf M))[j]? = some u → w'.cell? ⟨g21, j, none⟩ = some u) (by kernel_rfl) (by kernel_rfl) hT ?_
          show wpT _ _ _ _ [0, 1, 2, 3, 4, 5, 6, 7, 8, 9, 10, 11, 12, 13, 14, 15, 16, 17, 18, 19, 20, 21, 22, 23, 24, 25, 26, 27, 28, 29, 30] _ _
          apply wpT_read (i := 0) rfl hT rfl -- Op.move t7
          · intro w' hT'
            simp only [List.getElem_toArray, List.getElem_cons_zero, List.getElem_cons_succ]
            go_wp2_with fail
            first | exact ⟨rfl, rfl, rfl⟩ | rfl
          apply wpT_read (i := 1) rfl hT rfl -- Op.move t132
          · intro w' hT'
            simp only [List.getElem_toArray, List.getElem_cons_zero, List.getElem_cons_succ]
            go_wp2_with fail
            first | exact ⟨rfl, rfl, rfl⟩ | rfl
          apply wpT_read (i := 2) rfl hT rfl -- Op.move t20
          · intro w' hT'
            simp only [List.getElem_toArray, List.getElem_cons_zero, List.getElem_cons_succ]
            go_wp2_with fail
            first | exact ⟨rfl, rfl, rfl⟩ | rfl
          apply wpT_read (i := 3) rfl hT rfl -- Op.binOp BinOp.eql 3 t134 (const (15:i64)) 3
          · intro w' hT'
            simp only [List.getElem_toArray, List.getElem_cons_zero, List.getElem_cons_succ]
            go_wp2_with (first
              | (refine load_in rfl 30 _ rfl g21 0 rfl (ints .u8 (keyOf M)) (fun j v hv => by rw [Nat.zero_add]; exact hT' j v hv) 32 5 arrHash (by simp [keyOf_length]) infoHash ?_)
              | fail)
            first | exact ⟨rfl, rfl, rfl⟩ | rfl
          apply wpT_read (i := 4) rfl hT rfl -- Op.pick t133 t135 (const (Value.bool false))
          · intro w' hT'
            simp only [List.getElem_toArray, List.getElem_cons_zero, List.getElem_cons_succ]
            go_wp2_with fail
            first | exact ⟨rfl, rfl, rfl⟩ | rfl
          apply wpT_read (i := 5) rfl hT rfl -- Op.move t136
          · intro w' hT'
            simp only [List.getElem_toArray, List.getElem_cons_zero, List.getElem_cons_succ]
            go_wp2_with fail
            first | exact ⟨rfl, rfl, rfl⟩ | rfl
          apply wpT_read (i := 6) rfl hT rfl -- Op.move t21
          · intro w' hT'
            simp only [List.getElem_toArray, List.getElem_cons_zero, List.getElem_cons_succ]
            go_wp2_with fail
            first | exact ⟨rfl, rfl, rfl⟩ | rfl
          apply wpT_read (i := 7) rfl hT rfl -- Op.call { builtin len, args := #[t138], argTypes := #[37] }
          · intro w' hT'
            simp only [List.getElem_toArray, List.getElem_cons_zero, List.getElem_cons_succ]
            go_wp2_with fail
            first | exact ⟨rfl, rfl, rfl⟩ | rfl
          apply wpT_read (i := 8) rfl hT rfl -- Op.binOp BinOp.eql 3 t139 (const (1:i64)) 3
          · intro w' hT'
            simp only [List.getElem_toArray, List.getElem_cons_zero, List.getElem_cons_succ]
            go_wp2_with (first
              | (refine load_in rfl 30 _ rfl g21 0 rfl (ints .u8 (keyOf M)) (fun j v hv => by rw [Nat.zero_add]; exact hT' j v hv) 32 5 arrHash (by simp [keyOf_length]) infoHash ?_)
              | fail)
            first | exact ⟨rfl, rfl, rfl⟩ | rfl
          apply wpT_read (i := 9) rfl hT rfl -- Op.pick t137 t140 (const (Value.bool false))
          · intro w' hT'
            simp only [List.getElem_toArray, List.getElem_cons_zero, List.getElem_cons_succ]
            go_wp2_with fail
            first | exact ⟨rfl, rfl, rfl⟩ | rfl
          apply wpT_read (i := 10) rfl hT rfl -- Op.move t141
          · intro w' hT'
            simp only [List.getElem_toArray, List.getElem_cons_zero, List.getElem_cons_succ]
            go_wp2_with fail
            first | exact ⟨rfl, rfl, rfl⟩ | rfl
          apply wpT_read (i := 11) rfl hT rfl -- Op.move t21
          · intro w' hT'
            simp only [List.getElem_toArray, List.getElem_cons_zero, List.getElem_cons_succ]
            go_wp2_with fail
            first | exact ⟨rfl, rfl, rfl⟩ | rfl
          apply wpT_read (i := 12) rfl hT rfl -- Op.indexAddr 37 t143 (const (0:i64))
          · intro w' hT'
            simp only [List.getElem_toArray, List.getElem_cons_zero, List.getElem_cons_succ]
            go_wp2_with fail
            first | exact ⟨rfl, rfl, rfl⟩ | rfl
          apply wpT_read (i := 13) rfl hT rfl -- Op.load 30 t144
          · intro w' hT'
            simp only [List.getElem_toArray, List.getElem_cons_zero, List.getElem_cons_succ]
            go_wp2_with (first
              | (refine load_in rfl 30 _ rfl g21 0 rfl (ints .u8 (keyOf M)) (fun j v hv => by rw [Nat.zero_add]; exact hT' j v hv) 32 5 arrHash (by simp [keyOf_length]) infoHash ?_)
              | fail)
            first | exact ⟨rfl, rfl, rfl⟩ | rfl
          apply wpT_read (i := 14) rfl hT rfl -- Op.move t2
          · intro w' hT'
            simp only [List.getElem_toArray, List.getElem_cons_zero, List.getElem_cons_succ]
            go_wp2_with fail
            first | exact ⟨rfl, rfl, rfl⟩ | rfl
          refine wpT_act (i := 15) rfl rfl ?_ -- Op.call { value (Operand.func 12), args := #[t146], argTypes := #[3]
          simp only [List.getElem_toArray, List.getElem_cons_zero, List.getElem_cons_succ]
          go_wp2_with (first
            | (go_at_call 12; refine (keyC_calls _ _).mono ?_; rintro e w17 ⟨rfl, hB17⟩)
            | fail)
          replace hTW := hTW.below hB17
          have hT : ∀ (j : Nat) (u : Value), (ints .u8 (keyOf M))[j]? = some u → w17.cell? ⟨g21, j, none⟩ = some u := fun j u hu => (hB17.cell (lt_of_cell (hT j u hu))).trans (hT j u hu)
          first | refine ⟨rfl, rfl, hT, ?_⟩ | (show _ ∧ _; refine ⟨hT, ?_⟩) | skip
          apply wpT_read (i := 16) rfl hT rfl -- Op.binOp BinOp.eql 30 t145 t147 30
          · intro w' hT'
            simp only [List.getElem_toArray, List.getElem_cons_zero, List.getElem_cons_succ]
            go_wp2_with (first
              | (refine load_in rfl 30 _ rfl g21 0 rfl (ints .u8 (keyOf M)) (fun j v hv => by rw [Nat.zero_add]; exact hT' j v hv) 32 5 arrHash (by simp [keyOf_length]) infoHash ?_)
              | fail)
            first | exact ⟨rfl, rfl, rfl⟩ | rfl
          apply wpT_read (i := 17) rfl hT rfl -- Op.pick t142 t148 (const (Value.bool false))
          · intro w' hT'
            simp only [List.getElem_toArray, List.getElem_cons_zero, List.getElem_cons_succ]
            go_wp2_with fail
            first | exact ⟨rfl, rfl, rfl⟩ | rfl
          apply wpT_read (i := 18) rfl hT rfl -- Op.move t149
          · intro w' hT'
            simp only [List.getElem_toArray, List.getElem_cons_zero, List.getElem_cons_succ]
            go_wp2_with fail
            first | exact ⟨rfl, rfl, rfl⟩ | rfl
          apply wpT_read (i := 19) rfl hT rfl -- Op.move t8
          · intro w' hT'
            simp only [List.getElem_toArray, List.getElem_cons_zero, List.getElem_cons_succ]
            go_wp2_with fail
            first | exact ⟨rfl, rfl, rfl⟩ | rfl
          refine wpT_act (i := 20) rfl rfl ?_ -- Op.call { value (Operand.func 14), args := #[t151], argTypes := #[24
          simp only [List.getElem_toArray, List.getElem_cons_zero, List.getElem_cons_succ]
          go_wp2_with (first
            | (obtain ⟨Fs2, Ft2, hsS2, hsT2, hdis2, hbel2⟩ := id hTW; go_at_call 14; refine (usedX hsS2 hg1).mono ?_; rintro e w18 ⟨rfl, hB18⟩; rw [show used [(⟨keyOf M, N, [], false, 1⟩ : Item)] = N by simp [used]])
            | fail)
          replace hTW := hTW.below hB18
          have hT : ∀ (j : Nat) (u : Value), (ints .u8 (keyOf M))[j]? = some u → w18.cell? ⟨g21, j, none⟩ = some u := fun j u hu => (hB18.cell (lt_of_cell (hT j u hu))).trans (hT j u hu)
          first | refine ⟨rfl, rfl, hT, ?_⟩ | (show _ ∧ _; refine ⟨hT, ?_⟩) | skip
          apply wpT_read (i := 21) rfl hT rfl -- Op.move t0
          · intro w' hT'
            simp only [List.getElem_toArray, List.getElem_cons_zero, List.getElem_cons_succ]
            go_wp2_with fail
            first | exact ⟨rfl, rfl, rfl⟩ | rfl
          apply wpT_read (i := 22) rfl hT rfl -- Op.binOp BinOp.eql 3 t152 t153 3
          · intro w' hT'
            simp only [List.getElem_toArray, List.getElem_cons_zero, List.getElem_cons_succ]
            go_wp2_with (first
              | (refine load_in rfl 30 _ rfl g21 0 rfl (ints .u8 (keyOf M)) (fun j v hv => by rw [Nat.zero_add]; exact hT' j v hv) 32 5 arrHash (by simp [keyOf_length]) infoHash ?_)
              | fail)
            first | exact ⟨rfl, rfl, rfl⟩ | rfl
          apply wpT_read (i := 23) rfl hT rfl -- Op.pick t150 t154 (const (Value.bool false))
          · intro w' hT'
            simp only [List.getElem_toArray, List.getElem_cons_zero, List.getElem_cons_succ]
            go_wp2_with fail
            first | exact ⟨rfl, rfl, rfl⟩ | rfl
          apply wpT_read (i := 24) rfl hT rfl -- Op.move t155
          · intro w' hT'
            simp only [List.getElem_toArray, List.getElem_cons_zero, List.getElem_cons_succ]
            go_wp2_with fail
            first | exact ⟨rfl, rfl, rfl⟩ | rfl
          apply wpT_read (i := 25) rfl hT rfl -- Op.move t8
          · intro w' hT'
            simp only [List.getElem_toArray, List.getElem_cons_zero, List.getElem_cons_succ]
            go_wp2_with fail
            first | exact ⟨rfl, rfl, rfl⟩ | rfl
          refine wpT_act (i := 26) rfl rfl ?_ -- Op.call { value (Operand.func 12), args := #[const (99:i64)], argTyp
          simp only [List.getElem_toArray, List.getElem_cons_zero, List.getElem_cons_succ]
          go_wp2_with (first
            | (go_at_call 12; refine (keyC_calls _ _).mono ?_; rintro e w19 ⟨rfl, hB19⟩)
            | fail)
          replace hTW := hTW.below hB19
          have hT : ∀ (j : Nat) (u : Value), (ints .u8 (keyOf M))[j]? = some u → w19.cell? ⟨g21, j, none⟩ = some u := fun j u hu => (hB19.cell (lt_of_cell (hT j u hu))).trans (hT j u hu)
          first | refine ⟨rfl, rfl, hT, ?_⟩ | (show _ ∧ _; refine ⟨hT, ?_⟩) | skip
          refine wpT_tot (fun w' => True) (i := 27) rfl rfl (by kernel_rfl) ?_ -- Op.call { value (Operand.func 11), args := #[t157, t158, const (1:i6
          simp only [List.getElem_toArray, List.getElem_cons_zero, List.getElem_cons_succ]
          go_wp2_with (first
            | (go_at_call 11; refine (hTW.openL (keyOf 99) 1 hEA hg1 (keyOf_length _) hol).mono ?_; rintro e w20 ⟨rfl, hTW⟩; simp only [erV])
            | fail)
          have hT : True := trivial
          first | refine ⟨rfl, rfl, hT, ?_⟩ | (show _ ∧ _; refine ⟨hT, ?_⟩) | skip
          apply wpT_read (i := 28) rfl hT rfl -- Op.binOp BinOp.eql 27 t159 (const Value.nilIface) 27
          · intro w' hT'
            simp only [List.getElem_toArray, List.getElem_cons_zero, List.getElem_cons_succ]
            go_wp2_with (first
              | (refine load_in rfl 30 _ rfl g21 0 rfl (ints .u8 (keyOf M)) (fun j v hv => by rw [Nat.zero_add]; exact hT' j v hv) 32 5 arrHash (by simp [keyOf_length]) infoHash ?_)
              | fail)
            first | exact ⟨rfl, rfl, rfl⟩ | rfl
          apply wpT_read (i := 29) rfl hT rfl -- Op.pick t156 t160 (const (Value.bool false))
          · intro w' hT'
            simp only [List.getElem_toArray, List.getElem_cons_zero, List.getElem_cons_succ]
            go_wp2_with fail
            first | exact ⟨rfl, rfl, rfl⟩ | rfl
          apply wpT_read (i := 30) rfl hT rfl -- Op.assign t161
          · intro w' hT'
            simp only [List.getElem_toArray, List.getElem_cons_zero, List.getElem_cons_succ]
            go_wp2_with fail
            first | exact ⟨rfl, rfl, rfl⟩ | rfl
          refine wpT_end ?_
          try dsimp only

          go_wp2_with fail
          go_ret
          exact ⟨rfl, hTW.bel⟩
end Go.Proofs.YtinpilfnnmkpoaaDoor
