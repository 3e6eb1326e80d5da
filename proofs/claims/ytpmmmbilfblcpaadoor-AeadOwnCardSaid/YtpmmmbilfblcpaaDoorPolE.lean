/- A tag of bytes, by a key that is used once. -/
import Derived.Test.YtpmmmbilfblcpaaDoorPolB
import Derived.Test.YtpmmmbilfblcpaaDoorPolC
import Derived.Test.YtpmmmbilfblcpaaDoorPolD
namespace Go.Proofs.YtpmmmbilfblcpaaDoor
open Go.RowKit Go.Cour
attribute [local go_sem] max2_int min2_int
def clampA (s : List Int) (n : Nat) : List Int := (List.range n).foldl (fun s i => s.set (4 * i + 3) (bits .and .u8 (rd s (4 * i + 3)) 15)) s
def clampB (s : List Int) (n : Nat) : List Int := (List.range n).foldl (fun s i => s.set (4 * i + 4) (bits .and .u8 (rd s (4 * i + 4)) 252)) s
def rbytes (key : List Int) : List Int := clampB (clampA (key.take 16 ++ [0]) 4) 3
theorem clampA_succ (s : List Int) (n : Nat) : clampA s (n + 1) = (clampA s n).set (4 * n + 3) (bits .and .u8 (rd (clampA s n) (4 * n + 3)) 15) := foldl_succ' _ _ _
theorem clampB_succ (s : List Int) (n : Nat) : clampB s (n + 1) = (clampB s n).set (4 * n + 4) (bits .and .u8 (rd (clampB s n) (4 * n + 4)) 252) := foldl_succ' _ _ _
theorem clampA_length (s : List Int) : ∀ n, (clampA s n).length = s.length
  | 0 => rfl
  | n + 1 => by rw [clampA_succ, List.length_set]; exact clampA_length s n
theorem clampB_length (s : List Int) : ∀ n, (clampB s n).length = s.length
  | 0 => rfl
  | n + 1 => by rw [clampB_succ, List.length_set]; exact clampB_length s n
theorem info69 : (Tryd.prog.info? 69).map (·.size) = some 17 := by kernel_rfl
theorem arr69 : Tryd.prog.underlying 69 = some (.array 17 5) := by kernel_rfl
theorem info46 : (Tryd.prog.info? 46).map (·.size) = some 16 := by kernel_rfl
theorem arr46 : Tryd.prog.underlying 46 = some (.array 16 5) := by kernel_rfl
theorem sizeU8 : (Tryd.prog.info? 5).map (·.size) = some 1 := by kernel_rfl
theorem undBytesP : Tryd.prog.underlying 25 = some (.slice 5) := by kernel_rfl
theorem ix4 (i p : Nat) (h : i < 4) (hp : p = 4 * i + 3) (w : World) : (Instr.index 70 (.agg #[.int .i64 3, .int .i64 7, .int .i64 11, .int .i64 15]) (.int .i64 i)).run Tryd.prog w = .ok (.int .i64 p) w := by
  have h0 : (Instr.index 70 (.agg #[.int .i64 3, .int .i64 7, .int .i64 11, .int .i64 15]) (.int .i64 (0 : Nat))).run Tryd.prog w = .ok (.int .i64 (3 : Nat)) w := by kernel_rfl
  have h1 : (Instr.index 70 (.agg #[.int .i64 3, .int .i64 7, .int .i64 11, .int .i64 15]) (.int .i64 (1 : Nat))).run Tryd.prog w = .ok (.int .i64 (7 : Nat)) w := by kernel_rfl
  have h2 : (Instr.index 70 (.agg #[.int .i64 3, .int .i64 7, .int .i64 11, .int .i64 15]) (.int .i64 (2 : Nat))).run Tryd.prog w = .ok (.int .i64 (11 : Nat)) w := by kernel_rfl
  have h3 : (Instr.index 70 (.agg #[.int .i64 3, .int .i64 7, .int .i64 11, .int .i64 15]) (.int .i64 (3 : Nat))).run Tryd.prog w = .ok (.int .i64 (15 : Nat)) w := by kernel_rfl
  subst hp
  have h4 : i = 0 ∨ i = 1 ∨ i = 2 ∨ i = 3 := by omega
  rcases h4 with rfl | rfl | rfl | rfl
  · exact h0
  · exact h1
  · exact h2
  · exact h3
theorem ix3 (i p : Nat) (h : i < 3) (hp : p = 4 * i + 4) (w : World) : (Instr.index 71 (.agg #[.int .i64 4, .int .i64 8, .int .i64 12]) (.int .i64 i)).run Tryd.prog w = .ok (.int .i64 p) w := by
  have h0 : (Instr.index 71 (.agg #[.int .i64 4, .int .i64 8, .int .i64 12]) (.int .i64 (0 : Nat))).run Tryd.prog w = .ok (.int .i64 (4 : Nat)) w := by kernel_rfl
  have h1 : (Instr.index 71 (.agg #[.int .i64 4, .int .i64 8, .int .i64 12]) (.int .i64 (1 : Nat))).run Tryd.prog w = .ok (.int .i64 (8 : Nat)) w := by kernel_rfl
  have h2 : (Instr.index 71 (.agg #[.int .i64 4, .int .i64 8, .int .i64 12]) (.int .i64 (2 : Nat))).run Tryd.prog w = .ok (.int .i64 (12 : Nat)) w := by kernel_rfl
  subst hp
  have h4 : i = 0 ∨ i = 1 ∨ i = 2 := by omega
  rcases h4 with rfl | rfl | rfl
  · exact h0
  · exact h1
  · exact h2
/-- An element of an array value. -/
theorem ix5 (xs : List Int) (i : Nat) (h : i < 5) (hx : xs.length = 5) (w : World) : (Instr.index 73 (.agg (ints .u64 xs).toArray) (.int .i64 i)).run Tryd.prog w = .ok (.int .u64 (rd xs i)) w := by
  match xs, hx with
  | [x0, x1, x2, x3, x4], _ =>
    have h0 : (Instr.index 73 (.agg (ints .u64 [x0, x1, x2, x3, x4]).toArray) (.int .i64 (0 : Nat))).run Tryd.prog w = .ok (.int .u64 (rd [x0, x1, x2, x3, x4] 0)) w := by kernel_rfl
    have h1 : (Instr.index 73 (.agg (ints .u64 [x0, x1, x2, x3, x4]).toArray) (.int .i64 (1 : Nat))).run Tryd.prog w = .ok (.int .u64 (rd [x0, x1, x2, x3, x4] 1)) w := by kernel_rfl
    have h2 : (Instr.index 73 (.agg (ints .u64 [x0, x1, x2, x3, x4]).toArray) (.int .i64 (2 : Nat))).run Tryd.prog w = .ok (.int .u64 (rd [x0, x1, x2, x3, x4] 2)) w := by kernel_rfl
    have h3 : (Instr.index 73 (.agg (ints .u64 [x0, x1, x2, x3, x4]).toArray) (.int .i64 (3 : Nat))).run Tryd.prog w = .ok (.int .u64 (rd [x0, x1, x2, x3, x4] 3)) w := by kernel_rfl
    have h4 : (Instr.index 73 (.agg (ints .u64 [x0, x1, x2, x3, x4]).toArray) (.int .i64 (4 : Nat))).run Tryd.prog w = .ok (.int .u64 (rd [x0, x1, x2, x3, x4] 4)) w := by kernel_rfl
    have hh : i = 0 ∨ i = 1 ∨ i = 2 ∨ i = 3 ∨ i = 4 := by omega
    rcases hh with rfl | rfl | rfl | rfl | rfl
    · exact h0
    · exact h1
    · exact h2
    · exact h3
    · exact h4
/-- What the blocks of a call of Sum hold: the key, the tag, r. -/
structure SS (w wr : World) (key r : List Int) : Prop where
  k : Blk wr w.heap.size 23 (ints .u8 key)
  t : Blk wr (w.heap.size + 1) 46 (ints .u8 (List.replicate 16 0))
  r : Blk wr (w.heap.size + 1 + 1) 69 (ints .u8 r)
  below : Below w.heap.size w wr
  size : w.heap.size + 1 + 1 < wr.heap.size
theorem SS.set {w wr : World} {key r : List Int} (h : SS w wr key r) (i : Nat) (x : Int) : SS w (wr.setCell ⟨w.heap.size + 1 + 1, i, none⟩ (.int .u8 x)) key (r.set i x) :=
  ⟨h.k.setOther (by simp; try omega) _, h.t.setOther (by simp; try omega) _, h.r.setI i x, h.below.setCell (by simp; try omega) _, by simpa [World.setCell] using h.size⟩
theorem SS.row {w wr : World} {key r : List Int} (h : SS w wr key r) (r' : List Int) : SS w (wr.setRow (w.heap.size + 1 + 1) (ints .u8 r').toArray) key r' :=
  ⟨h.k.setRowOther (by omega) _, h.t.setRowOther (by omega) _, h.r.setRow _, below_setRow h.below (by omega) _, by simpa using h.size⟩
theorem SS.drew {w wr : World} {key r : List Int} (h : SS w wr key r) : SS w wr.drew key r := ⟨h.k.drew, h.t.drew, h.r.drew, h.below.drew, h.size⟩
theorem rcopy_eq (key : List Int) : (key.take 16).take 16 ++ (List.replicate 17 (0 : Int)).drop 16 = key.take 16 ++ [0] := by
  rw [List.take_take]; rfl
/-- One block of bytes, with its one behind. -/
def blockOf (ys : List Int) : List Int := (ys.take (min ys.length 16) ++ (List.replicate 17 0).drop (min ys.length 16)).set (min ys.length 16) 1
theorem blockOf_length (ys : List Int) : (blockOf ys).length = 17 := by simp [blockOf]; omega
def addTo (s p : List Int) (n : Nat) : List Int := (List.range n).foldl (fun s i => s.set i (u64 (rd s i + rd p i))) s
def absorb (s p ys : List Int) : List Int := times (addTo s (parts (blockOf ys)) 5) p
def sumTo (p bs : List Int) (n : Nat) : List Int := (List.range n).foldl (fun s j => absorb s p (bs.drop (16 * j))) (List.replicate 5 0)
theorem addTo_succ (s p : List Int) (n : Nat) : addTo s p (n + 1) = (addTo s p n).set n (u64 (rd (addTo s p n) n + rd p n)) := foldl_succ' _ _ _
theorem addTo_zero (s p : List Int) : addTo s p 0 = s := rfl
theorem addTo_length (s p : List Int) : ∀ n, (addTo s p n).length = s.length
  | 0 => rfl
  | n + 1 => by rw [addTo_succ, List.length_set]; exact addTo_length s p n
theorem sumTo_succ (p bs : List Int) (n : Nat) : sumTo p bs (n + 1) = absorb (sumTo p bs n) p (bs.drop (16 * n)) := foldl_succ' _ _ _
theorem sumTo_zero (p bs : List Int) : sumTo p bs 0 = List.replicate 5 0 := rfl
theorem sumTo_length (p bs : List Int) : ∀ n, (sumTo p bs n).length = 5
  | 0 => by simp [sumTo_zero]
  | n + 1 => by rw [sumTo_succ]; exact times_length _ _
def sumOf (p bs : List Int) : List Int := sumTo p bs ((bs.length + 15) / 16)
def halfOf (l h : Int) (i : Nat) : Int := if 8 ≤ i then h else l
def ostep (l h : Int) (key : List Int) (s : List Int × Int) (i : Nat) : List Int × Int :=
  (s.1.set i (u64 (u64 (bits .and .u64 (halfOf l h i / 2 ^ (8 * (i % 8))) 255 + u64 (rd key (16 + i))) + s.2) % 256),
   u64 (u64 (bits .and .u64 (halfOf l h i / 2 ^ (8 * (i % 8))) 255 + u64 (rd key (16 + i))) + s.2) / 256)
def outS (l h : Int) (key : List Int) (n : Nat) : List Int × Int := (List.range n).foldl (ostep l h key) (List.replicate 16 0, 0)
theorem outS_succ (l h : Int) (key : List Int) (n : Nat) : outS l h key (n + 1) = ostep l h key (outS l h key n) n := foldl_succ' _ _ _
theorem outS_zero (l h : Int) (key : List Int) : outS l h key 0 = (List.replicate 16 0, 0) := rfl
theorem outS_length (l h : Int) (key : List Int) : ∀ n, (outS l h key n).1.length = 16
  | 0 => by simp [outS_zero]
  | n + 1 => by rw [outS_succ]; simp only [ostep, List.length_set]; exact outS_length l h key n
/-- The tag of bytes. -/
def polySum (key bs : List Int) : List Int :=
  (outS (lowL (lowA (sumOf (parts (rbytes key)) bs))) (lowH (lowA (sumOf (parts (rbytes key)) bs))) key 16).1
theorem polySum_length (key bs : List Int) : (polySum key bs).length = 16 := outS_length _ _ _ _
/-- What they hold while the tag is laid. -/
structure SO (w wr : World) (H : Nat) (key out : List Int) : Prop where
  k : Blk wr w.heap.size 23 (ints .u8 key)
  t : Blk wr (w.heap.size + 1) 46 (ints .u8 (List.replicate 16 0))
  o : Blk wr H 46 (ints .u8 out)
  below : Below w.heap.size w wr
  lt : w.heap.size + 1 < H
theorem SO.set {w wr : World} {H : Nat} {key out : List Int} (h : SO w wr H key out) (i : Nat) (x : Int) : SO w (wr.setCell ⟨H, i, none⟩ (.int .u8 x)) H key (out.set i x) := by
  have h2 := h.lt
  exact ⟨h.k.setOther (by simp; omega) _, h.t.setOther (by simp; omega) _, h.o.setI i x, h.below.setCell (by simp; omega) _, h2⟩
theorem SO.drewN {w wr : World} {H : Nat} {key out : List Int} (h : SO w wr H key out) (n : Nat) : SO w (wr.drewN n) H key out :=
  ⟨h.k.drewN n, h.t.drewN n, h.o.drewN n, below_drewN h.below n, h.lt⟩
/-- What they hold while the bytes are taken in. -/
structure SM (w wr : World) (G : Nat) (key p s : List Int) : Prop where
  k : Blk wr w.heap.size 23 (ints .u8 key)
  t : Blk wr (w.heap.size + 1) 46 (ints .u8 (List.replicate 16 0))
  p : Blk wr G 73 (ints .u64 p)
  s : Blk wr (G + 1) 73 (ints .u64 s)
  below : Below w.heap.size w wr
  lt : w.heap.size + 1 + 1 < G
  size : G + 1 < wr.heap.size
theorem SM.start {w wr wx : World} {key Z p : List Int} (h : SS w wr key Z) (hb : Below wr.heap.size wr wx) :
    SM w (((wx.alloc (.cells (ints .u64 (List.replicate 5 0)).toArray 73)).setRow wx.heap.size (ints .u64 p).toArray).alloc (.cells (ints .u64 (List.replicate 5 0)).toArray 73)) wx.heap.size key p (List.replicate 5 0) := by
  have h1 := h.size
  have h2 := hb.size
  refine ⟨?_, ?_, ?_, ?_, ?_, by omega, by simp⟩
  · exact (((h.k.belowAll hb).alloc _).setRowOther (by omega) _).alloc _
  · exact (((h.t.belowAll hb).alloc _).setRowOther (by omega) _).alloc _
  · exact ((Blk.new wx 73 _).setRow _).alloc _
  · exact Blk.new' _ 73 _ _ (by simp)
  · exact (below_setRow ((below_then h.below (by omega) hb).alloc (by omega) _) (by omega) _).alloc (by simp; omega) _
theorem SM.tmp {w wr : World} {G : Nat} {key p s : List Int} (h : SM w wr G key p s) (L : List Int) :
    SM w ((wr.alloc (.cells (ints .u8 (List.replicate 17 0)).toArray 69)).setRow wr.heap.size (ints .u8 L).toArray) G key p s := by
  have h1 := h.size
  have h2 := h.lt
  exact ⟨(h.k.alloc _).setRowOther (by omega) _, (h.t.alloc _).setRowOther (by omega) _, (h.p.alloc _).setRowOther (by omega) _, (h.s.alloc _).setRowOther (by omega) _, below_setRow (h.below.alloc (by omega) _) (by omega) _, h2, by simp; omega⟩
theorem SM.setFar {w wr : World} {G : Nat} {key p s : List Int} (h : SM w wr G key p s) (g i : Nat) (v : Value) (hg : G + 1 < g) : SM w (wr.setCell ⟨g, i, none⟩ v) G key p s := by
  have h2 := h.lt
  exact ⟨h.k.setOther (by simp; omega) _, h.t.setOther (by simp; omega) _, h.p.setOther (by simp; omega) _, h.s.setOther (by simp; omega) _, h.below.setCell (by simp; omega) _, h2, by simpa [World.setCell] using h.size⟩
theorem SM.belowAll {w wr wx : World} {G : Nat} {key p s : List Int} (h : SM w wr G key p s) (hb : Below wr.heap.size wr wx) : SM w wx G key p s := by
  have h2 := h.lt
  have h3 := h.size
  have h4 := hb.size
  exact ⟨h.k.belowAll hb, h.t.belowAll hb, h.p.belowAll hb, h.s.belowAll hb, below_then h.below (by omega) hb, h2, by omega⟩
theorem SM.set {w wr : World} {G : Nat} {key p s : List Int} (h : SM w wr G key p s) (i : Nat) (x : Int) : SM w (wr.setCell ⟨G + 1, i, none⟩ (.int .u64 x)) G key p (s.set i x) := by
  have h2 := h.lt
  exact ⟨h.k.setOther (by simp; omega) _, h.t.setOther (by simp; omega) _, h.p.setOther (by simp) _, h.s.setI i x, h.below.setCell (by simp; omega) _, h2, by simpa [World.setCell] using h.size⟩
theorem SM.row {w wr : World} {G : Nat} {key p s : List Int} (h : SM w wr G key p s) (s' : List Int) : SM w (wr.setRow (G + 1) (ints .u64 s').toArray) G key p s' := by
  have h2 := h.lt
  exact ⟨h.k.setRowOther (by omega) _, h.t.setRowOther (by omega) _, h.p.setRowOther (by omega) _, h.s.setRow _, below_setRow h.below (by omega) _, h2, by simpa using h.size⟩
theorem SO.start {w wr wx : World} {G : Nat} {key p s : List Int} (h : SM w wr G key p s) (hb : Below wr.heap.size wr wx) : SO w (wx.alloc (.cells (ints .u8 (List.replicate 16 0)).toArray 46)) wx.heap.size key (List.replicate 16 0) := by
  have h1 := h.belowAll hb
  have h2 := h1.lt
  have h3 := h1.size
  exact ⟨h1.k.alloc _, h1.t.alloc _, Blk.new wx 46 _, h1.below.alloc (by omega) _, by omega⟩
set_option maxHeartbeats 4000000 in
set_option maxRecDepth 100000 in
theorem sum_calls (key bs : List Int) (A : Option Addr) (n c : Nat) (w : World) (hk : key.length = 32) (hn : n = bs.length) (hc : n ≤ c) (hr : Rd w A .u8 bs) (hl : n ≤ 1000000) :
    Calls Tryd.prog 22 #[.agg (ints .u8 key).toArray, .slice A n c] w fun e w' => e = .returned (.agg (ints .u8 (polySum key bs)).toArray) ∧ Below w.heap.size w w' := by
  have HK := hid hk
  have HN := hid hn
  have HR := hid hr
  clear hk hn hr
  have hb0 : SS w (((w.alloc (.cells (ints .u8 key).toArray 23)).alloc (.cells (ints .u8 (List.replicate 16 0)).toArray 46)).alloc (.cells (ints .u8 (List.replicate 17 0)).toArray 69)) key (List.replicate 17 0) := by
    refine ⟨?_, ?_, ?_, ?_, ?_⟩
    · exact ((Blk.new w 23 (ints .u8 key)).alloc _).alloc _
    · exact (Blk.new' (w.alloc _) 46 (ints .u8 (List.replicate 16 0)) _ (by simp)).alloc _
    · exact Blk.new' ((w.alloc _).alloc _) 69 (ints .u8 (List.replicate 17 0)) _ (by simp)
    · exact (((Below.refl _ _).alloc (Nat.le_refl _) _).alloc (by simp) _).alloc (by simp; omega) _
    · simp
  go_enter Tryd.func22, Tryd.ntmps22
  go_wp2_with fail
  refine wp_region_still_tail 2 (by kernel_rfl) (by kernel_rfl) ?_
  simp only [List.take_succ_cons, List.take_zero, List.drop_succ_cons, List.drop_zero]
  change wpStill _ _ (World.drew _) (fun a' => wpList _ _ _ _ a' (World.drew _)) _ _
  repeat still_step
  refine wpStill_nil ?_
  change wpList _ _ _ _ _ _
  refine copy_blk rfl (.tmp 22) (.tmp 23) 25 25 rfl 5 undBytesP sizeU8 (w.heap.size + 1 + 1) 17 17 rfl ⟨w.heap.size, 0, none⟩ 16 32 rfl 69 .u8 (List.replicate 17 0) (key.take 16) 16 hb0.r.drew ((Rd.ofBlk hb0.k).take 16).drew (by have := HK.out; simp; omega) rfl (by simp) ?_
  rw [rcopy_eq]
  have hb1 := hb0.drew.row (key.take 16 ++ [0])
  clear hb0
  obtain ⟨R0, hR0⟩ : ∃ R, Hd (R = key.take 16 ++ [0]) := ⟨_, hid rfl⟩
  have hR0l : Hd (R0.length = 17) := hid (by rw [hR0.out]; have := HK.out; simp; omega)
  rw [← hR0.out] at hb1 ⊢
  go_wp2_with fail
  go_loopg [26] 4 (fun kq v26 wr => ∃ i : Nat, i ≤ 4 ∧ v26 = .int .i64 i ∧ Hd (kq + i = 4) ∧ SS w wr key (clampA R0 i))
  case atStart => exact ⟨0, by omega, rfl, hid rfl, hb1⟩
  case round =>
    clear hb1
    obtain ⟨i, hi, rfl, hq, hS⟩ := hrel
    obtain ⟨Y, hY⟩ : ∃ Y, Hd (Y = clampA R0 i) := ⟨_, hid rfl⟩
    have hYl : Hd (Y.length = 17) := hid (by rw [hY.out, clampA_length]; exact hR0l.out)
    rw [← hY.out] at hS
    by_cases hlt : i < 4
    · obtain ⟨p, hp, hp17⟩ : ∃ p : Nat, Hd (p = 4 * i + 3) ∧ p < 17 := ⟨_, hid rfl, by omega⟩
      have cp := hS.r.cellI p (by have := hYl.out; omega)
      have fp := hS.r.frozen p
      have ix := ix4 i p hlt hp.out
      have a1 : (p : Int) < 17 := by omega
      go_wp2_with fail
      go_roundg (gk - 1)
      case measure => have := hq.out; omega
      case rel =>
        refine ⟨i + 1, by omega, by go_num, hid (by have := hq.out; omega), ?_⟩
        rw [clampA_succ, ← hY.out, ← hp.out]
        exact hS.set p _
    · obtain rfl : i = 4 := by omega
      clear hlt hi
      go_wp2_with fail
      obtain ⟨wo, rfl⟩ : ∃ wo : World, wo = wr := ⟨_, rfl⟩
      go_loopg [36] 3 (fun kq v36 wr => ∃ i : Nat, i ≤ 3 ∧ v36 = .int .i64 i ∧ Hd (kq + i = 3) ∧ SS w wr key (clampB Y i))
      case atStart => exact ⟨0, by omega, rfl, hid rfl, hS⟩
      case round =>
        clear hS
        obtain ⟨i, hi, rfl, hq, hS⟩ := hrel
        obtain ⟨Z, hZ⟩ : ∃ Z, Hd (Z = clampB Y i) := ⟨_, hid rfl⟩
        have hZl : Hd (Z.length = 17) := hid (by rw [hZ.out, clampB_length]; exact hYl.out)
        rw [← hZ.out] at hS
        by_cases hlt : i < 3
        · obtain ⟨p, hp, hp17⟩ : ∃ p : Nat, Hd (p = 4 * i + 4) ∧ p < 17 := ⟨_, hid rfl, by omega⟩
          have cp := hS.r.cellI p (by have := hZl.out; omega)
          have fp := hS.r.frozen p
          have ix := ix3 i p hlt hp.out
          have a1 : (p : Int) < 17 := by omega
          go_wp2_with fail
          go_roundg (gk - 1)
          case measure => have := hq.out; omega
          case rel =>
            refine ⟨i + 1, by omega, by go_num, hid (by have := hq.out; omega), ?_⟩
            rw [clampB_succ, ← hZ.out, ← hp.out]
            exact hS.set p _
        · obtain rfl : i = 3 := by omega
          clear hlt hi
          have hZr : Hd (Z = rbytes key) := hid (by rw [hZ.out, hY.out, hR0.out]; rfl)
          have hZ17 : Hd ((ints .u8 Z).length = 17) := hid (by rw [ints_length]; exact hZl.out)
          have hP5 : Hd ((ints .u64 (parts Z)).length = 5) := hid (by rw [ints_length]; exact partsTo_length _ _)
          go_wp2_with (first
            | (refine load_blk rfl 69 (.tmp 5) rfl (w.heap.size + 1 + 1) rfl 69 _ hS.r 17 5 arr69 hZ17.out info69 ?_)
            | (go_at_call 44; refine (parts_calls Z _ hZl.out).mono ?_; rintro e wx ⟨rfl, hb⟩)
            | (refine store_blk rfl 73 (.tmp 10) (.tmp 46) rfl wx.heap.size _ rfl rfl 73 _ (Blk.new wx 73 (ints .u64 (List.replicate 5 0))) 5 info73 hP5.out (by simp) (ints_one _ _) ?_)
            | fail)
          have hM := SM.start hS hb (p := parts Z)
          clear hS hb hZ17 hP5
          obtain ⟨G, hG⟩ : ∃ H, H = wx.heap.size := ⟨_, rfl⟩
          rw [← hG] at hM ⊢
          clear hG
          obtain ⟨P, hP⟩ : ∃ P, Hd (P = parts Z) := ⟨_, hid rfl⟩
          have hPl : Hd (P.length = 5) := hid (by rw [hP.out]; exact partsTo_length _ _)
          rw [← hP.out] at hM ⊢
          go_loopg [1] (n + 16) (fun kq v1 wr => ∃ (j n' c' : Nat) (A' : Option Addr), v1 = .slice A' n' c' ∧ Hd (kq + 16 * j = n + 16) ∧ n' ≤ n ∧ Hd (n' = n - 16 * j ∧ 16 * j < n + 16) ∧ n' ≤ c' ∧ Hd (Rd w A' .u8 (bs.drop (16 * j))) ∧ SM w wr G key P (sumTo P bs j))
          case atStart => exact ⟨0, n, c, A, rfl, hid rfl, Nat.le_refl _, hid ⟨by omega, by omega⟩, hc, hid HR.out, hM⟩
          case round =>
            clear hM
            obtain ⟨j, n', c', A', rfl, hq, hn', hj, hc', hR, hM⟩ := hrel
            by_cases hlt : 0 < n'
            · have hd1 : decide ((0 : Int) < n') = true := by simp; omega
              obtain ⟨ys, hys⟩ : ∃ ys, Hd (ys = bs.drop (16 * j)) := ⟨_, hid rfl⟩
              have hyl : Hd (ys.length = n') := hid (by rw [hys.out, List.length_drop, ← HN.out]; exact hj.out.1.symm)
              rw [← hys.out] at hR
              obtain ⟨g, o, rfl⟩ := hR.out.at (by rw [hyl.out]; exact hlt)
              obtain ⟨k, hk, hk17⟩ : ∃ k : Nat, Hd (k = min n' 16) ∧ k < 17 := ⟨_, hid rfl, by omega⟩
              have ak : (if (16 : Int) < (n' : Int) then (16 : Int) else (n' : Int)) = (k : Int) := by
                have := hk.out
                split <;> omega
              have ak17 : (k : Int) < 17 := by omega
              obtain ⟨L, hL⟩ : ∃ L, Hd (L = ys.take k ++ (List.replicate 17 (0 : Int)).drop k) := ⟨_, hid rfl⟩
              have hLl : Hd (L.length = 17) := hid (by rw [hL.out]; have := hk.out; have := hyl.out; simp; omega)
              have hLb : Hd (L.set k 1 = blockOf ys) := hid (by rw [hL.out, blockOf, hyl.out, ← hk.out])
              have hL17 : Hd ((ints .u8 (L.set k 1)).length = 17) := hid (by rw [ints_length, List.length_set]; exact hLl.out)
              have hR0 := (Blk.new wr 69 (ints .u8 (List.replicate 17 0)))
              go_wp2_with (first
                | (refine copy_blk rfl (.tmp 55) (.tmp 56) 25 25 rfl 5 undBytesP sizeU8 wr.heap.size 16 17 rfl ⟨g, o, none⟩ n' c' rfl 69 .u8 (List.replicate 17 0) ys k hR0 ((hR.out.below hM.below).alloc _) hyl.out hk.out (by have := hk.out; simp; omega) ?_; rw [← hL.out]; generalize hW : World.setRow _ _ _ = W; have hMW : SM w W G key P (sumTo P bs j) := hW ▸ hM.tmp L; have hxW : Blk W wr.heap.size 69 (ints .u8 L) := hW ▸ hR0.setRow _; clear hW; have cx := hxW.cellI k (by rw [hLl.out]; exact hk17); have fx := hxW.frozen k)
                | (refine load_blk rfl 69 (.tmp 12) rfl wr.heap.size rfl 69 _ (hxW.setI k 1) 17 5 arr69 hL17.out info69 ?_)
                | (go_at_call 44; refine (parts_calls (L.set k 1) _ (by rw [List.length_set]; exact hLl.out)).mono ?_; rintro e wx2 ⟨rfl, hb2⟩)
                | fail)
              have hM2 := (hMW.setFar wr.heap.size k (.int .u8 1) hM.size).belowAll hb2
              clear hM hMW hb2 hxW cx fx hR0 hL17
              obtain ⟨B, hB⟩ : ∃ B, Hd (B = parts (L.set k 1)) := ⟨_, hid rfl⟩
              have hBl : Hd (B.length = 5) := hid (by rw [hB.out]; exact partsTo_length _ _)
              rw [← hB.out]
              obtain ⟨S, hS⟩ : ∃ S, Hd (S = sumTo P bs j) := ⟨_, hid rfl⟩
              have hSl : Hd (S.length = 5) := hid (by rw [hS.out]; exact sumTo_length _ _ _)
              rw [← hS.out] at hM2
              have hSn : Hd (sumTo P bs (j + 1) = times (addTo S B 5) P) := hid (by
                rw [sumTo_succ, ← hS.out, absorb, ← hys.out, ← hLb.out, ← hB.out])
              obtain ⟨gk1, hgk⟩ : ∃ g : Nat, Hd (g = gk) := ⟨gk, hid rfl⟩
              have hq1 : Hd (gk1 + 16 * j = n + 16) := hid (by rw [hgk.out]; exact hq.out)
              obtain ⟨wo2, rfl⟩ : ∃ wo : World, wo = wr := ⟨_, rfl⟩
              go_loopg [61] 5 (fun kq v61 wr => ∃ i : Nat, i ≤ 5 ∧ v61 = .int .i64 i ∧ Hd (kq + i = 5) ∧ SM w wr G key P (addTo S B i))
              case atStart => exact ⟨0, by omega, rfl, hid rfl, by rw [addTo_zero]; exact hM2⟩
              case round =>
                clear hM2
                obtain ⟨i, hi, rfl, hq2, hM⟩ := hrel
                obtain ⟨T, hT⟩ : ∃ T, Hd (T = addTo S B i) := ⟨_, hid rfl⟩
                have hTl : Hd (T.length = 5) := hid (by rw [hT.out, addTo_length]; exact hSl.out)
                rw [← hT.out] at hM
                by_cases hlt5 : i < 5
                · have ci := hM.s.cellI i (by have := hTl.out; omega)
                  have fi := hM.s.frozen i
                  have ix := ix5 B i hlt5 hBl.out
                  have ai : (i : Int) < 5 := by omega
                  go_wp2_with fail
                  go_roundg (gk - 1)
                  case measure => have := hq2.out; omega
                  case rel =>
                    refine ⟨i + 1, by omega, by go_num, hid (by have := hq2.out; omega), ?_⟩
                    rw [addTo_succ, ← hT.out]
                    exact hM.set i _
                · have hi5 : (i : Int) = 5 := by omega
                  rw [hi5]
                  obtain rfl : i = 5 := by omega
                  clear hlt5 hi5 hi
                  have hT5 : Hd ((ints .u64 T).length = 5) := hid (by rw [ints_length]; exact hTl.out)
                  have hP5 : Hd ((ints .u64 P).length = 5) := hid (by rw [ints_length]; exact hPl.out)
                  have hX5 : Hd ((ints .u64 (times T P)).length = 5) := hid (by rw [ints_length]; exact times_length _ _)
                  go_wp2_with (first
                    | (refine load_blk rfl 73 (.tmp 11) rfl (G + 1) rfl 73 _ hM.s 5 72 arr73 hT5.out info73 ?_)
                    | (refine load_blk rfl 73 (.tmp 10) rfl G rfl 73 _ hM.p 5 72 arr73 hP5.out info73 ?_)
                    | (go_at_call 45; refine (times_calls T P _ hTl.out hPl.out).mono ?_; rintro e wx3 ⟨rfl, hb3⟩; have hM3 := hM.belowAll hb3)
                    | (refine store_blk rfl 73 (.tmp 11) (.tmp 74) rfl (G + 1) _ rfl rfl 73 _ hM3.s 5 info73 hX5.out hT5.out (ints_one _ _) ?_)
                    | fail)
                  all_goals
                    go_roundg (gk1 - 16)
                    case measure => have := hq1.out; have := hj.out; have := hgk.out; omega
                    case rel =>
                      have hq1' := hq1.out
                      have hj' := hj.out
                      have hk' := hk.out
                      have hd := hR.out.drop k c' (by rw [hyl.out]; omega) (by rw [hyl.out]; exact hc')
                      have hdr : ys.drop k = bs.drop (16 * (j + 1)) := by
                        rw [hys.out, List.drop_drop]
                        by_cases h16 : n' < 16
                        · rw [List.drop_eq_nil_of_le (by rw [← HN.out]; omega), List.drop_eq_nil_of_le (by rw [← HN.out]; omega)]
                        · rw [show 16 * j + k = 16 * (j + 1) by omega]
                      rw [hdr] at hd
                      refine ⟨j + 1, n' - k, c' - k, _, ?_, hid (by omega), by omega, hid ⟨by omega, by omega⟩, by omega, hid hd, ?_⟩
                      · first
                          | (rw [if_neg (by assumption)]; simp [add_lit]; done)
                          | (rw [if_pos (by assumption)]; simp; done)
                          | (simp [add_lit, *]; done)
                      · rw [hSn.out, ← hT.out]; exact hM3.row _
            · obtain rfl : n' = 0 := by omega
              have hd1 : decide ((0 : Int) < ((0 : Nat) : Int)) = false := by decide
              obtain ⟨S, hS⟩ : ∃ S, Hd (S = sumOf P bs) := ⟨_, hid rfl⟩
              have hSj : Hd (sumTo P bs j = S) := hid (by
                have := hj.out
                rw [hS.out, sumOf, show (bs.length + 15) / 16 = j by rw [← HN.out]; omega])
              have hSl : Hd (S.length = 5) := hid (by rw [← hSj.out]; exact sumTo_length _ _ _)
              have hS5 : Hd ((ints .u64 S).length = 5) := hid (by rw [ints_length]; exact hSl.out)
              rw [hSj.out] at hM
              go_wp2_with (first
                | (refine load_blk rfl 73 (.tmp 11) rfl (G + 1) rfl 73 _ hM.s 5 72 arr73 hS5.out info73 ?_)
                | (go_at_call 46; refine (low_calls S _ hSl.out).mono ?_; rintro e wx2 ⟨rfl, hb2⟩)
                | fail)
              have hO := SO.start hM hb2
              clear hM hb2
              obtain ⟨l, hl_⟩ : ∃ l, Hd (l = lowL (lowA S)) := ⟨_, hid rfl⟩
              obtain ⟨h, hh_⟩ : ∃ h, Hd (h = lowH (lowA S)) := ⟨_, hid rfl⟩
              have hfin : Hd (polySum key bs = (outS l h key 16).1) := hid (by
                rw [polySum, ← hZr.out, ← hP.out, ← hS.out, ← hl_.out, ← hh_.out])
              rw [← hl_.out, ← hh_.out]
              obtain ⟨H, hH⟩ : ∃ H, H = wx2.heap.size := ⟨_, rfl⟩
              rw [← hH] at hO ⊢
              clear hH
              obtain ⟨wo2, rfl⟩ : ∃ wo : World, wo = wr := ⟨_, rfl⟩
              go_loopg [18, 80] 16 (fun kq v18 v80 wr => ∃ i : Nat, i ≤ 16 ∧ v80 = .int .i64 i ∧ v18 = .int .u64 (outS l h key i).2 ∧ Hd (kq + i = 16) ∧ SO w wr H key (outS l h key i).1)
              case atStart => exact ⟨0, by omega, rfl, rfl, hid rfl, hO⟩
              case round =>
                clear hO
                obtain ⟨i, hi, rfl, rfl, hq2, hO⟩ := hrel
                obtain ⟨Yo, ov, hY⟩ : ∃ Y o, Hd (outS l h key i = (Y, o)) := ⟨_, _, hid rfl⟩
                rw [hY.out] at hO ⊢
                dsimp only at hO ⊢
                have hYl : Hd (Yo.length = 16) := hid (by have := outS_length l h key i; rw [hY.out] at this; exact this)
                by_cases hlt16 : i < 16
                · obtain ⟨r, hr, hr8⟩ : ∃ r : Nat, Hd (r = i % 8) ∧ r < 8 := ⟨_, hid rfl, by omega⟩
                  have ck := hO.k.cellI (16 + i) (by have := HK.out; omega)
                  have co := hO.o.cellI i (by have := hYl.out; omega)
                  have fo := hO.o.frozen i
                  have a4 : (i : Int).tmod 8 = (r : Int) := by
                    have := hr.out
                    rw [Int.tmod_eq_emod_of_nonneg (by omega)]
                    omega
                  have a5 : IntKind.i64.wrap (8 * (r : Int)) = 8 * (r : Int) := IntWalk.i64_in _ (by omega)
                  have a8 : 8 * (r : Int) ≤ 64 := by omega
                  have a8' : 0 ≤ 8 * (r : Int) := by omega
                  have a9 : (i : Int) < 16 := by omega
                  have a10 : (16 : Int) + (i : Int) < 32 := by omega
                  have a11 : IntKind.i64.wrap (16 + (i : Int)) = 16 + (i : Int) := IntWalk.i64_in _ (by omega)
                  by_cases h8 : 8 ≤ i
                  · have a12 : (8 : Int) ≤ (i : Int) := by omega
                    have hhalf : Hd (halfOf l h i = h) := hid (if_pos h8)
                    go_wp2_with fail
                    go_quiet (fail)
                    clear a4 a5 a8 a8' a10 a11
                    go_wp2_with fail
                    go_roundg (gk - 1)
                    case measure => have := hq2.out; omega
                    case rel =>
                      refine ⟨i + 1, by omega, by go_num, ?_, hid (by have := hq2.out; omega), ?_⟩
                      · rw [outS_succ, hY.out, ostep, hhalf.out, ← hr.out]; rfl
                      · rw [outS_succ, hY.out, ostep, hhalf.out, ← hr.out]; exact (hO.drewN _).set i _
                  · have a12 : ¬ (8 : Int) ≤ (i : Int) := by omega
                    have hhalf : Hd (halfOf l h i = l) := hid (if_neg h8)
                    go_wp2_with fail
                    go_quiet (fail)
                    clear a4 a5 a8 a8' a10 a11
                    go_wp2_with fail
                    go_roundg (gk - 1)
                    case measure => have := hq2.out; omega
                    case rel =>
                      refine ⟨i + 1, by omega, by go_num, ?_, hid (by have := hq2.out; omega), ?_⟩
                      · rw [outS_succ, hY.out, ostep, hhalf.out, ← hr.out]; rfl
                      · rw [outS_succ, hY.out, ostep, hhalf.out, ← hr.out]; exact (hO.drewN _).set i _
                · obtain rfl : i = 16 := by omega
                  clear hlt16 hi
                  have hl16 : Hd ((ints .u8 Yo).length = 16) := hid (by rw [ints_length]; exact hYl.out)
                  go_wp2_with (first
                    | (refine load_blk rfl 46 (.tmp 17) rfl H rfl 46 _ hO.o 16 5 arr46 hl16.out info46 ?_)
                    | (refine store_blk rfl 46 (.tmp 4) (.tmp 108) rfl (w.heap.size + 1) _ rfl rfl 46 _ hO.t 16 info46 hl16.out (by simp) (ints_one _ _) ?_)
                    | fail)
                  refine bodyPost_ret (results_blk rfl _ _ (w.heap.size + 1) 46 _ 16 5 rfl (hO.t.setRow _) arr46 hl16.out info46) rfl ?_
                  exact ⟨by rw [hfin.out, hY.out], below_setRow hO.below (by omega) _⟩
end Go.Proofs.YtpmmmbilfblcpaaDoor
