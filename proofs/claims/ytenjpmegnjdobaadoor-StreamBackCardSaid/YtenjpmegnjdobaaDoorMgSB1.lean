import Derived.Lib.AppendZerosOnto
import Derived.StillTail
import Derived.Tactics
import Derived.Orders
import Derived.KernelRfl
import Derived.Test.YtenjpmegnjdobaaDoorMgSB0
set_option linter.unusedSimpArgs false
set_option linter.unusedVariables false
/- A word of four bytes. -/
namespace Go.Proofs.YtenjpmegnjdobaaDoor
open Go.RowKit Go.Cour
/-- Four bytes as a word. -/
def word4 (b0 b1 b2 b3 : Int) : Int := bits .or .u32 (bits .or .u32 (bits .or .u32 b0 (b1 * 256)) (b2 * 65536)) (b3 * 16777216)
set_option maxHeartbeats 1000000 in
set_option maxRecDepth 100000 in
theorem word_calls (g o i n c : Nat) (p : Int) (b0 b1 b2 b3 : Int) (w : World) (hp : p = (i : Int)) (hi : i + 3 < n) (hn : n < 1000000)
    (h0 : w.cell? ⟨g, o + i, none⟩ = some (.int .u8 b0)) (h1 : w.cell? ⟨g, o + (i + 1), none⟩ = some (.int .u8 b1)) (h2 : w.cell? ⟨g, o + (i + 2), none⟩ = some (.int .u8 b2)) (h3 : w.cell? ⟨g, o + (i + 3), none⟩ = some (.int .u8 b3))
    (r0 : 0 ≤ b0 ∧ b0 < 256) (r1 : 0 ≤ b1 ∧ b1 < 256) (r2 : 0 ≤ b2 ∧ b2 < 256) (r3 : 0 ≤ b3 ∧ b3 < 256) :
    Calls Tryd.prog 48 #[.slice (some ⟨g, o, none⟩) n c, .int .i64 p] w fun e w' => e = .returned (.int .u32 (word4 b0 b1 b2 b3)) ∧ ∃ m, w' = w.drewN m := by
  subst hp
  have i0 : (i : Int) < n := by omega
  have i1 : (i : Int) + 1 < n := by omega
  have i2 : (i : Int) + 2 < n := by omega
  have i3 : (i : Int) + 3 < n := by omega
  have i4 : (i : Int) < 1000000 := by omega
  clear hi hn
  go_enter Tryd.func48, Tryd.ntmps48
  go_wp2
  go_quiet (fail)
  go_wp2
  go_ret
  exact ⟨rfl, _, rfl⟩

/-- A byte list holds bytes. -/
def bytesOk (xs : List Int) : Prop := ∀ i, 0 ≤ rd xs i ∧ rd xs i < 256
def wordAt (xs : List Int) (i : Nat) : Int := word4 (rd xs i) (rd xs (i + 1)) (rd xs (i + 2)) (rd xs (i + 3))
theorem wordB_calls (g i n c : Nat) (t : TypeId) (p : Int) (xs : List Int) (w : World) (hp : p = (i : Int)) (hg : Blk w g t (ints .u8 xs)) (hi : i + 3 < n) (hn : n = xs.length) (hx : n < 1000000) (r : bytesOk xs) :
    Calls Tryd.prog 48 #[.slice (some ⟨g, 0, none⟩) n c, .int .i64 p] w fun e w' => e = .returned (.int .u32 (wordAt xs i)) ∧ ∃ m, w' = w.drewN m := by
  subst hn
  exact word_calls g 0 i _ c p _ _ _ _ w hp hi hx (by rw [Nat.zero_add]; exact hg.cellI i (by omega)) (by rw [Nat.zero_add]; exact hg.cellI _ (by omega)) (by rw [Nat.zero_add]; exact hg.cellI _ (by omega)) (by rw [Nat.zero_add]; exact hg.cellI _ (by omega)) (r _) (r _) (r _) (r _)
/-- The first state: constants, the key's words, the counter, the nonce's. -/
def first0 (c : Int) : List Int := [1634760805, 857760878, 2036477234, 1797285236, 0, 0, 0, 0, 0, 0, 0, 0, c, 0, 0, 0]
def firstK (key : List Int) (c : Int) (n : Nat) : List Int := (List.range n).foldl (fun s i => s.set (4 + i) (wordAt key (4 * i))) (first0 c)
def firstN (key : List Int) (c : Int) (nonce : List Int) (n : Nat) : List Int := (List.range n).foldl (fun s i => s.set (13 + i) (wordAt nonce (4 * i))) (firstK key c 8)
def cols (s : List Int) (n : Nat) : List Int := (List.range n).foldl (fun s i => quarter s i (4 + i) (8 + i) (12 + i)) s
def diags (s : List Int) (n : Nat) : List Int := (List.range n).foldl (fun s i => quarter s i (4 + (i + 1) % 4) (8 + (i + 2) % 4) (12 + (i + 3) % 4)) s
def rounds (s : List Int) (n : Nat) : List Int := (List.range n).foldl (fun s _ => diags (cols s 4) 4) s
def outByte (s f : List Int) (i : Nat) : Int := ((rd s (i / 4) + rd f (i / 4)) % 4294967296 / 2 ^ (8 * (i % 4))) % 256
def outTo (s f : List Int) (n : Nat) : List Int := (List.range n).foldl (fun o i => o.set i (outByte s f i)) (List.replicate 64 0)
def block (key : List Int) (c : Int) (nonce : List Int) : List Int := outTo (rounds (firstN key c nonce 3) 10) (firstN key c nonce 3) 64
theorem info65 : (Tryd.prog.info? 73).map (·.size) = some 16 := by kernel_rfl
theorem arr65 : Tryd.prog.underlying 73 = some (.array 16 25) := by kernel_rfl
theorem info44 : (Tryd.prog.info? 61).map (·.size) = some 64 := by kernel_rfl
theorem arr44 : Tryd.prog.underlying 61 = some (.array 64 5) := by kernel_rfl

theorem foldl_succ {α : Type} (f : α → Nat → α) (s : α) (n : Nat) : (List.range (n + 1)).foldl f s = f ((List.range n).foldl f s) n := by
  rw [List.range_succ, List.foldl_append]; rfl
theorem firstK_succ (key : List Int) (c : Int) (n : Nat) : firstK key c (n + 1) = (firstK key c n).set (4 + n) (wordAt key (4 * n)) := foldl_succ _ _ _
theorem firstN_succ (key : List Int) (c : Int) (nonce : List Int) (n : Nat) : firstN key c nonce (n + 1) = (firstN key c nonce n).set (13 + n) (wordAt nonce (4 * n)) := foldl_succ _ _ _
theorem firstK_length (key : List Int) (c : Int) : ∀ n, (firstK key c n).length = 16
  | 0 => rfl
  | n + 1 => by rw [firstK_succ, List.length_set]; exact firstK_length key c n
theorem firstN_length (key : List Int) (c : Int) (nonce : List Int) : ∀ n, (firstN key c nonce n).length = 16
  | 0 => firstK_length key c 8
  | n + 1 => by rw [firstN_succ, List.length_set]; exact firstN_length key c nonce n

/-- What the blocks of a call of Block hold before its rounds. -/
structure BS (w wr : World) (key nonce first : List Int) : Prop where
  k : Blk wr w.heap.size 23 (ints .u8 key)
  n : Blk wr (w.heap.size + 1) 47 (ints .u8 nonce)
  r : Blk wr (w.heap.size + 1 + 1) 61 (ints .u8 (List.replicate 64 0))
  f : Blk wr (w.heap.size + 1 + 1 + 1) 73 (ints .u32 first)
  below : Below w.heap.size w wr
  size : wr.heap.size = w.heap.size + 1 + 1 + 1 + 1

theorem quarterI_calls (g a b c d : Nat) (pa pb pc pd : Int) (xs : List Int) (w : World) (ea : pa = a) (eb : pb = b) (ec : pc = c) (ed : pd = d) (hx : xs.length = 16) (ha : a < 16) (hb : b < 16) (hc : c < 16) (hd : d < 16) (hg : Blk w g 73 (ints .u32 xs)) (hw : words xs) :
    Calls Tryd.prog 49 #[.pointer (some ⟨g, 0, none⟩), .int .i64 pa, .int .i64 pb, .int .i64 pc, .int .i64 pd] w fun e w' => e = .returned (.tuple #[]) ∧ Blk w' g 73 (ints .u32 (quarter xs a b c d)) ∧ Only g w w' := by
  subst ea eb ec ed
  exact quarter_calls g a b c d xs w hx ha hb hc hd hg hw
theorem cols_succ (s : List Int) (n : Nat) : cols s (n + 1) = quarter (cols s n) n (4 + n) (8 + n) (12 + n) := foldl_succ _ _ _
theorem diags_succ (s : List Int) (n : Nat) : diags s (n + 1) = quarter (diags s n) n (4 + (n + 1) % 4) (8 + (n + 2) % 4) (12 + (n + 3) % 4) := foldl_succ _ _ _
theorem rounds_succ (s : List Int) (n : Nat) : rounds s (n + 1) = diags (cols (rounds s n) 4) 4 := foldl_succ _ _ _
theorem outTo_succ (s f : List Int) (n : Nat) : outTo s f (n + 1) = (outTo s f n).set n (outByte s f n) := foldl_succ _ _ _
theorem cols_zero (s : List Int) : cols s 0 = s := rfl
theorem diags_zero (s : List Int) : diags s 0 = s := rfl
theorem rounds_zero (s : List Int) : rounds s 0 = s := rfl
theorem outTo_zero (s f : List Int) : outTo s f 0 = List.replicate 64 0 := rfl
theorem cols_length (s : List Int) : ∀ n, (cols s n).length = s.length
  | 0 => rfl
  | n + 1 => by rw [cols_succ, quarter_length]; exact cols_length s n
theorem diags_length (s : List Int) : ∀ n, (diags s n).length = s.length
  | 0 => rfl
  | n + 1 => by rw [diags_succ, quarter_length]; exact diags_length s n
theorem rounds_length (s : List Int) : ∀ n, (rounds s n).length = s.length
  | 0 => rfl
  | n + 1 => by rw [rounds_succ, diags_length, cols_length]; exact rounds_length s n
theorem outTo_length (s f : List Int) : ∀ n, (outTo s f n).length = 64
  | 0 => by simp [outTo]
  | n + 1 => by rw [outTo_succ, List.length_set]; exact outTo_length s f n
theorem words_cols {s : List Int} (h : words s) : ∀ n, words (cols s n)
  | 0 => h
  | n + 1 => by rw [cols_succ]; exact words_quarter (words_cols h n) _ _ _ _
theorem words_diags {s : List Int} (h : words s) : ∀ n, words (diags s n)
  | 0 => h
  | n + 1 => by rw [diags_succ]; exact words_quarter (words_diags h n) _ _ _ _
theorem words_rounds {s : List Int} (h : words s) : ∀ n, words (rounds s n)
  | 0 => h
  | n + 1 => by rw [rounds_succ]; exact words_diags (words_cols (words_rounds h n) 4) 4
theorem word4_bound (a b c d : Int) : 0 ≤ word4 a b c d ∧ word4 a b c d < 4294967296 := bits_u32_bound _ _ _
theorem words_first0 {c : Int} (hc : 0 ≤ c ∧ c < 4294967296) : words (first0 c) := by
  intro i
  by_cases h : i < 16
  · have : i = 0 ∨ i = 1 ∨ i = 2 ∨ i = 3 ∨ i = 4 ∨ i = 5 ∨ i = 6 ∨ i = 7 ∨ i = 8 ∨ i = 9 ∨ i = 10 ∨ i = 11 ∨ i = 12 ∨ i = 13 ∨ i = 14 ∨ i = 15 := by omega
    rcases this with rfl | rfl | rfl | rfl | rfl | rfl | rfl | rfl | rfl | rfl | rfl | rfl | rfl | rfl | rfl | rfl <;> simp [first0, rd] <;> omega
  · have : rd (first0 c) i = 0 := by unfold rd; rw [List.getD_eq_getElem?_getD, List.getElem?_eq_none (by simp [first0]; omega)]; rfl
    omega
theorem words_firstK (key : List Int) {c : Int} (hc : 0 ≤ c ∧ c < 4294967296) : ∀ n, words (firstK key c n)
  | 0 => words_first0 hc
  | n + 1 => by rw [firstK_succ]; exact words_set (words_firstK key hc n) _ (word4_bound _ _ _ _).1 (word4_bound _ _ _ _).2
theorem words_firstN (key : List Int) {c : Int} (hc : 0 ≤ c ∧ c < 4294967296) (nonce : List Int) : ∀ n, words (firstN key c nonce n)
  | 0 => words_firstK key hc 8
  | n + 1 => by rw [firstN_succ]; exact words_set (words_firstN key hc nonce n) _ (word4_bound _ _ _ _).1 (word4_bound _ _ _ _).2
/-- What they hold in its rounds. -/
structure BR (w wr : World) (G : Nat) (first s : List Int) : Prop where
  r : Blk wr (w.heap.size + 1 + 1) 61 (ints .u8 (List.replicate 64 0))
  f : Blk wr (w.heap.size + 1 + 1 + 1) 73 (ints .u32 first)
  s : Blk wr G 73 (ints .u32 s)
  below : Below w.heap.size w wr
  lt : w.heap.size + 1 + 1 + 1 < G
  size : wr.heap.size = G + 1
theorem BR.start {w wr : World} {key nonce F : List Int} (hS : BS w wr key nonce F) :
    BR w ((wr.alloc (.cells (ints .u32 (List.replicate 16 0)).toArray 73)).setRow wr.heap.size (ints .u32 F).toArray) wr.heap.size F F := by
  have hz := hS.size
  exact ⟨(hS.r.alloc _).setRowOther (by omega) _, (hS.f.alloc _).setRowOther (by omega) _, (Blk.new wr 73 _).setRow _, below_setRow (hS.below.alloc (by omega) _) (by omega) _, by omega, by simp⟩
theorem BR.quarter {w wr wx : World} {G : Nat} {first s s' : List Int} (h : BR w wr G first s) (hs : Blk wx G 73 (ints .u32 s')) (ho : Only G wr wx) : BR w wx G first s' :=
  ⟨h.r.only ho (by have := h.lt; omega), h.f.only ho (by have := h.lt; omega), hs, ho.below h.below (by have := h.lt; omega), h.lt, by rw [ho.size]; exact h.size⟩
/-- What they hold when the bytes are laid. -/
structure BO (w wr : World) (G H : Nat) (first s out : List Int) : Prop where
  r : Blk wr (w.heap.size + 1 + 1) 61 (ints .u8 (List.replicate 64 0))
  f : Blk wr (w.heap.size + 1 + 1 + 1) 73 (ints .u32 first)
  s : Blk wr G 73 (ints .u32 s)
  o : Blk wr H 61 (ints .u8 out)
  below : Below w.heap.size w wr
  lt : w.heap.size + 1 + 1 + 1 < G
  lt' : G < H
theorem BO.start {w wr : World} {G : Nat} {first s : List Int} (h : BR w wr G first s) : BO w (wr.alloc (.cells (ints .u8 (List.replicate 64 0)).toArray 61)) G wr.heap.size first s (outTo s first 0) :=
  ⟨h.r.alloc _, h.f.alloc _, h.s.alloc _, Blk.new wr 61 _, h.below.alloc (by have := h.size; have := h.lt; omega) _, h.lt, by have := h.size; omega⟩
theorem BO.next {w wr : World} {G H n : Nat} {first s : List Int} (h : BO w wr G H first s (outTo s first n)) : BO w (wr.setCell ⟨H, n, none⟩ (.int .u8 (outByte s first n))).drew G H first s (outTo s first (n + 1)) := by
  have h1 := h.lt
  have h2 := h.lt'
  refine ⟨(h.r.setOther (by simp; omega) _).drew, (h.f.setOther (by simp; omega) _).drew, (h.s.setOther (by simp; omega) _).drew, ?_, (h.below.setCell (by simp; omega) _).drew, h1, h2⟩
  rw [outTo_succ]; exact (h.o.setI n _).drew
theorem outByte_eq (s f : List Int) (n q r : Nat) (h : n = 4 * q + r) (hr : r < 4) : outByte s f n = ((rd s q + rd f q) % 4294967296 / 2 ^ (8 * r)) % 256 := by
  have e1 : n / 4 = q := by omega
  have e2 : n % 4 = r := by omega
  rw [outByte, e1, e2]
set_option maxHeartbeats 4000000 in
set_option maxRecDepth 100000 in
theorem block_calls (key nonce : List Int) (c : Int) (w : World) (hk : key.length = 32) (hn : nonce.length = 12) (rk : bytesOk key) (rn : bytesOk nonce) (hc : 0 ≤ c ∧ c < 4294967296) :
    Calls Tryd.prog 39 #[.agg (ints .u8 key).toArray, .int .u32 c, .agg (ints .u8 nonce).toArray] w fun e w' => e = .returned (.agg (ints .u8 (block key c nonce)).toArray) ∧ Below w.heap.size w w' := by
  have HK := hid hk
  have HN := hid hn
  have HC := hid hc
  clear hk hn hc
  go_enter Tryd.func39, Tryd.ntmps39
  go_wp2_with fail
  go_loopg [17] 8 (fun kq v17 wr => ∃ i : Nat, i ≤ 8 ∧ v17 = .int .i64 i ∧ Hd (kq = 8 - i) ∧ BS w wr key nonce (firstK key c i))
  case atStart =>
    refine ⟨0, by omega, rfl, hid rfl, ?_, ?_, ?_, ?_, ?_, ?_⟩
    · exact ((((Blk.new w 23 (ints .u8 key)).alloc _).alloc _).alloc _)
    · exact ((Blk.new' (w.alloc _) 47 (ints .u8 nonce) _ (by simp)).alloc _).alloc _
    · exact (Blk.new' ((w.alloc _).alloc _) 61 (ints .u8 (List.replicate 64 0)) _ (by simp)).alloc _
    · exact Blk.new' (((w.alloc _).alloc _).alloc _) 73 (ints .u32 (first0 c)) _ (by simp)
    · exact ((((Below.refl _ _).alloc (Nat.le_refl _) _).alloc (by simp) _).alloc (by simp; try omega) _).alloc (by simp; try omega) _
    · simp
  case round =>
    obtain ⟨i, hi, rfl, hq, hS⟩ := hrel
    by_cases hlt : i < 8
    · have hfc := hS.f.cellI (4 + i) (by rw [firstK_length]; omega)
      have hff := hS.f.frozen (4 + i)
      go_wp2_with (go_at_call 48; refine (wordB_calls w.heap.size (4 * i) _ _ 23 _ key _ (by omega) hS.k (by omega) HK.out.symm (by omega) rk).mono ?_; rintro e w' ⟨rfl, m, rfl⟩)
      go_roundg (gk - 1)
      case measure => have := hq.out; omega
      case rel =>
        refine ⟨i + 1, by omega, by go_num, hid (by have := hq.out; omega), ?_, ?_, ?_, ?_, ?_, ?_⟩
        · exact ((hS.k.drewN m).setOther (by simp; try omega) _)
        · exact ((hS.n.drewN m).setOther (by simp; try omega) _)
        · exact ((hS.r.drewN m).setOther (by simp; try omega) _)
        · rw [firstK_succ]; exact (hS.f.drewN m).setI (4 + i) _
        · exact (below_drewN hS.below m).setCell (by simp; try omega) _
        · simpa [World.setCell] using hS.size
    · obtain rfl : i = 8 := by omega
      clear hq hi hlt
      go_wp2_with fail
      obtain ⟨wo, rfl⟩ : ∃ wo : World, wo = wr := ⟨_, rfl⟩
      go_loopg [28] 3 (fun kq v28 wr => ∃ i : Nat, i ≤ 3 ∧ v28 = .int .i64 i ∧ Hd (kq = 3 - i) ∧ BS w wr key nonce (firstN key c nonce i))
      case atStart => exact ⟨0, by omega, rfl, hid rfl, hS⟩
      case round =>
        clear hS
        obtain ⟨i, hi, rfl, hq, hS⟩ := hrel
        by_cases hlt : i < 3
        · have hfc := hS.f.cellI (13 + i) (by rw [firstN_length]; omega)
          have hff := hS.f.frozen (13 + i)
          go_wp2_with (go_at_call 48; refine (wordB_calls (w.heap.size + 1) (4 * i) _ _ 47 _ nonce _ (by omega) hS.n (by omega) HN.out.symm (by omega) rn).mono ?_; rintro e w' ⟨rfl, m, rfl⟩)
          go_roundg (gk - 1)
          case measure => have := hq.out; omega
          case rel =>
            refine ⟨i + 1, by omega, by go_num, hid (by have := hq.out; omega), ?_, ?_, ?_, ?_, ?_, ?_⟩
            · exact ((hS.k.drewN m).setOther (by simp; try omega) _)
            · exact ((hS.n.drewN m).setOther (by simp; try omega) _)
            · exact ((hS.r.drewN m).setOther (by simp; try omega) _)
            · rw [firstN_succ]; exact (hS.f.drewN m).setI (13 + i) _
            · exact (below_drewN hS.below m).setCell (by simp; try omega) _
            · simpa [World.setCell] using hS.size
        · obtain rfl : i = 3 := by omega
          clear hq hi hlt
          have hl16 : (ints .u32 (firstN key c nonce 3)).length = 16 := by simpa using firstN_length key c nonce 3
          go_wp2_with (first
            | (refine load_blk rfl 73 _ rfl (w.heap.size + 1 + 1 + 1) rfl 73 _ hS.f 16 25 arr65 hl16 info65 ?_)
            | (refine store_blk rfl 73 _ _ rfl wr.heap.size _ rfl rfl 73 _ (Blk.new wr 73 (ints .u32 (List.replicate 16 0))) 16 info65 hl16 (by simp) (ints_one _ _) ?_))
          have hR := BR.start hS
          have hl3 : (firstN key c nonce 3).length = 16 := firstN_length key c nonce 3
          have hw3 : words (firstN key c nonce 3) := words_firstN key HC.out nonce 3
          have hbl : block key c nonce = outTo (rounds (firstN key c nonce 3) 10) (firstN key c nonce 3) 64 := rfl
          have HBL := hid hbl
          clear hS hl16 hbl
          generalize firstN key c nonce 3 = F at *
          have HL3 := hid hl3
          clear hl3
          clear HK HN HC
          obtain ⟨G, hG⟩ : ∃ G, G = wr.heap.size := ⟨_, rfl⟩
          obtain ⟨wo, rfl⟩ : ∃ wo : World, wo = wr := ⟨_, rfl⟩
          rw [← hG] at hR ⊢
          clear hG
          go_loopg [40] 10 (fun kq v40 wr => ∃ i : Nat, i ≤ 10 ∧ v40 = .int .i64 i ∧ Hd (kq = 10 - i) ∧ BR w wr G F (rounds F i))
          case atStart => exact ⟨0, by omega, rfl, hid rfl, by rw [rounds_zero]; exact hR⟩
          case round =>
            clear hR
            obtain ⟨i, hi, rfl, hq, hR⟩ := hrel
            by_cases hlt : i < 10
            · have hd1 : decide ((i : Int) < 10) = true := by simp; omega
              go_wp2_with fail
              obtain ⟨wo1, rfl⟩ : ∃ wo : World, wo = wr := ⟨_, rfl⟩
              obtain ⟨gk1, hgk⟩ : ∃ g : Nat, Hd (g = gk) := ⟨gk, hid rfl⟩
              have hq1 : Hd (gk1 = 10 - i) := hid (by rw [hgk.out]; exact hq.out)
              go_loopg [42] 4 (fun kq v42 wr => ∃ j : Nat, j ≤ 4 ∧ v42 = .int .i64 j ∧ Hd (kq = 4 - j) ∧ BR w wr G F (cols (rounds F i) j))
              case atStart => exact ⟨0, by omega, rfl, hid rfl, by rw [cols_zero]; exact hR⟩
              case round =>
                clear hR
                obtain ⟨j, hj, rfl, hq2, hR⟩ := hrel
                by_cases hjlt : j < 4
                · go_wp2_with (go_at_call 49; refine (quarterI_calls G j (4 + j) (8 + j) (12 + j) _ _ _ _ (cols (rounds F i) j) _ rfl (by omega) (by omega) (by omega) (by rw [cols_length, rounds_length]; exact HL3.out) (by omega) (by omega) (by omega) (by omega) hR.s (words_cols (words_rounds hw3 i) j)).mono ?_; rintro e wx ⟨rfl, hs, ho⟩)
                  go_roundg (gk - 1)
                  case measure => have := hq2.out; omega
                  case rel => exact ⟨j + 1, by omega, by go_num, hid (by have := hq2.out; omega), hR.quarter (by rw [cols_succ]; exact hs) ho⟩
                · have hj4 : (j : Int) = 4 := by omega
                  rw [hj4]
                  obtain rfl : j = 4 := by omega
                  clear hq2 hj hjlt hj4
                  go_wp2_with fail
                  obtain ⟨wo2, rfl⟩ : ∃ wo : World, wo = wr := ⟨_, rfl⟩
                  go_loopg [54] 4 (fun kq v54 wr => ∃ j : Nat, j ≤ 4 ∧ v54 = .int .i64 j ∧ Hd (kq = 4 - j) ∧ BR w wr G F (diags (cols (rounds F i) 4) j))
                  case atStart => exact ⟨0, by omega, rfl, hid rfl, by rw [diags_zero]; exact hR⟩
                  case round =>
                    clear hR
                    obtain ⟨j, hj, rfl, hq2, hR⟩ := hrel
                    by_cases hjlt : j < 4
                    · go_wp2_with (go_at_call 49; refine (quarterI_calls G j (4 + (j + 1) % 4) (8 + (j + 2) % 4) (12 + (j + 3) % 4) _ _ _ _ (diags (cols (rounds F i) 4) j) _ rfl (by omega) (by omega) (by omega) (by rw [diags_length, cols_length, rounds_length]; exact HL3.out) (by omega) (by omega) (by omega) (by omega) hR.s (words_diags (words_cols (words_rounds hw3 i) 4) j)).mono ?_; rintro e wx ⟨rfl, hs, ho⟩)
                      go_roundg (gk - 1)
                      case measure => have := hq2.out; omega
                      case rel => exact ⟨j + 1, by omega, by go_num, hid (by have := hq2.out; omega), hR.quarter (by rw [diags_succ]; exact hs) ho⟩
                    · have hj4 : (j : Int) = 4 := by omega
                      rw [hj4]
                      obtain rfl : j = 4 := by omega
                      clear hq2 hj hjlt hj4
                      go_wp2_with fail
                      go_roundg (gk1 - 1)
                      case measure => have := hq1.out; have := hgk.out; omega
                      case rel => exact ⟨i + 1, by omega, by go_num, hid (by have := hq1.out; have := hgk.out; omega), by rw [rounds_succ]; exact hR⟩
            · obtain rfl : i = 10 := by omega
              clear hq hi hlt
              go_wp2_with fail
              have hO := BO.start hR
              clear hR
              obtain ⟨H, hH⟩ : ∃ H, H = wr.heap.size := ⟨_, rfl⟩
              obtain ⟨wo1, rfl⟩ : ∃ wo : World, wo = wr := ⟨_, rfl⟩
              rw [← hH] at hO ⊢
              clear hH
              have hlS : (rounds F 10).length = 16 := by rw [rounds_length]; exact HL3.out
              have HLS := hid hlS
              clear hlS hw3
              generalize rounds F 10 = S at hO HBL HLS
              go_loopg [73] 64 (fun kq v73 wr => ∃ i : Nat, i ≤ 64 ∧ v73 = .int .i64 i ∧ Hd (kq = 64 - i) ∧ BO w wr G H F S (outTo S F i))
              case atStart => exact ⟨0, by omega, rfl, hid rfl, hO⟩
              case round =>
                clear hO
                obtain ⟨i, hi, rfl, hq, hO⟩ := hrel
                by_cases hlt : i < 64
                · obtain ⟨q, r, hqr, hr, hq16⟩ : ∃ q r : Nat, Hd (i = 4 * q + r) ∧ r < 4 ∧ q < 16 := ⟨i / 4, i % 4, hid (by omega), by omega, by omega⟩
                  have cs := hO.s.cellI q (by have := HLS.out; omega)
                  have cf := hO.f.cellI q (by have := HL3.out; omega)
                  have co := hO.o.cellI i (by rw [outTo_length]; omega)
                  have fo := hO.o.frozen i
                  go_wp2_with fail
                  have a1 : IntKind.i64.wrap ((i : Int) / 4) = (q : Int) := by
                    have := hqr.out
                    rw [IntWalk.i64_in _ (by omega)]
                    omega
                  have a2 : (i : Int).tmod 4 = (r : Int) := by
                    have := hqr.out
                    rw [Int.tmod_eq_emod_of_nonneg (by omega)]
                    omega
                  have a3 : IntKind.i64.wrap (8 * (r : Int)) = 8 * (r : Int) := IntWalk.i64_in _ (by omega)
                  have a4 : 0 ≤ 8 * (r : Int) := by omega
                  have a5 : 8 * (r : Int) ≤ 32 := by omega
                  have a6 : (q : Int) < 16 := by omega
                  have a7 : (i : Int) < 64 := by omega
                  refine wp_region_still_tail 16 (by kernel_rfl) (by kernel_rfl) ?_
                  simp only [List.take_succ_cons, List.take_zero, List.drop_succ_cons, List.drop_zero]
                  change wpStill _ _ (World.drew _) (fun a' => wpList _ _ _ _ a' (World.drew _)) _ _
                  repeat still_step
                  refine wpStill_nil ?_
                  change wpList _ _ _ _ _ _
                  clear a1 a2 a3 a4 a5 a6
                  go_wp2_with fail
                  go_roundg (gk - 1)
                  case measure => have := hq.out; omega
                  case rel =>
                    refine ⟨i + 1, by omega, by go_num, hid (by have := hq.out; omega), ?_⟩
                    have hb := outByte_eq S F i q r hqr.out hr
                    have hn := hO.next
                    rw [hb] at hn
                    exact hn
                · obtain rfl : i = 64 := by omega
                  clear hq hi hlt
                  have hl64 : (ints .u8 (outTo S F 64)).length = 64 := by simpa using outTo_length S F 64
                  go_wp2_with (first
                    | (refine load_blk rfl 61 _ rfl H rfl 61 _ hO.o 64 5 arr44 hl64 info44 ?_)
                    | (refine store_blk rfl 61 _ _ rfl (w.heap.size + 1 + 1) _ rfl rfl 61 _ hO.r 64 info44 hl64 (by simp) (ints_one _ _) ?_))
                  refine bodyPost_ret (results_blk rfl _ _ (w.heap.size + 1 + 1) 61 _ 64 5 rfl (hO.r.setRow _) arr44 hl64 info44) rfl ?_
                  exact ⟨by rw [HBL.out], below_setRow hO.below (by omega) _⟩
end Go.Proofs.YtenjpmegnjdobaaDoor
/- XOR: bytes with the stream's. -/
namespace Go.Proofs.YtenjpmegnjdobaaDoor
open Go.RowKit Go.Cour
attribute [local go_sem] max2_int min2_int
/-- The counter behind so many blocks. -/
def ctr (c : Int) (j : Nat) : Int := (c + j) % 4294967296
def xorByte (key : List Int) (c : Int) (nonce xs : List Int) (i : Nat) : Int := bits .xor .u8 (rd xs i) (rd (block key (ctr c (i / 64)) nonce) (i % 64))
def xorTo (key : List Int) (c : Int) (nonce xs : List Int) (n : Nat) : List Int := (List.range n).foldl (fun o i => o.set i (xorByte key c nonce xs i)) (List.replicate xs.length 0)
def xorStream (key : List Int) (c : Int) (nonce xs : List Int) : List Int := xorTo key c nonce xs xs.length
theorem xorTo_succ (key : List Int) (c : Int) (nonce xs : List Int) (n : Nat) : xorTo key c nonce xs (n + 1) = (xorTo key c nonce xs n).set n (xorByte key c nonce xs n) := foldl_succ _ _ _
theorem xorTo_length (key : List Int) (c : Int) (nonce xs : List Int) : ∀ n, (xorTo key c nonce xs n).length = xs.length
  | 0 => by simp [xorTo]
  | n + 1 => by rw [xorTo_succ, List.length_set]; exact xorTo_length key c nonce xs n
theorem xorStream_length (key : List Int) (c : Int) (nonce xs : List Int) : (xorStream key c nonce xs).length = xs.length := xorTo_length _ _ _ _ _
theorem ctr_bound (c : Int) (j : Nat) : 0 ≤ ctr c j ∧ ctr c j < 4294967296 := ⟨Int.emod_nonneg _ (by decide), Int.emod_lt_of_pos _ (by decide)⟩
theorem ctr_succ (c : Int) (j : Nat) : (ctr c j + 1) % 4294967296 = ctr c (j + 1) := by unfold ctr; omega
theorem ctr_zero {c : Int} (h : 0 ≤ c ∧ c < 4294967296) : ctr c 0 = c := by unfold ctr; omega
theorem block_length (key : List Int) (c : Int) (nonce : List Int) : (block key c nonce).length = 64 := outTo_length _ _ _
theorem info23 : (Tryd.prog.info? 23).map (·.size) = some 32 := by kernel_rfl
theorem arr23 : Tryd.prog.underlying 23 = some (.array 32 5) := by kernel_rfl
theorem info24 : (Tryd.prog.info? 47).map (·.size) = some 12 := by kernel_rfl
theorem arr24 : Tryd.prog.underlying 47 = some (.array 12 5) := by kernel_rfl
theorem infoU8 : (Tryd.prog.info? 5).map (fun i => (i.zero, i.size, i.bytes)) = some (some (.int .u8 0), 1, 1) := by kernel_rfl
theorem undBytes : Tryd.prog.underlying 24 = some (.slice 5) := by kernel_rfl
theorem made_ints (n : Nat) : madeCells #[.int .u8 0] n = (ints .u8 (List.replicate n 0)).toArray := by
  apply Array.toList_inj.1
  rw [toList_madeCells_one]; simp [ints]
/-- What the blocks of a call of XOR hold. -/
structure XS (w wr : World) (key nonce out : List Int) : Prop where
  k : Blk wr w.heap.size 23 (ints .u8 key)
  n : Blk wr (w.heap.size + 1) 47 (ints .u8 nonce)
  o : Blk wr (w.heap.size + 1 + 1) 5 (ints .u8 out)
  below : Below w.heap.size w wr
  size : w.heap.size + 1 + 1 < wr.heap.size

/-- In a block of the stream. -/
structure XI (w wr : World) (H : Nat) (key nonce out blk : List Int) : Prop extends XS w wr key nonce out where
  s : Blk wr H 61 (ints .u8 blk)
  lt : w.heap.size + 1 + 1 < H
theorem XI.start {w wr wx : World} {key nonce out blk : List Int} (h : XS w wr key nonce out) (hb : Below wr.heap.size wr wx) :
    XI w ((wx.alloc (.cells (ints .u8 (List.replicate 64 0)).toArray 61)).setRow wx.heap.size (ints .u8 blk).toArray) wx.heap.size key nonce out blk := by
  have h1 := h.size
  have h2 := hb.size
  refine ⟨⟨((h.k.belowAll hb).alloc _).setRowOther (by omega) _, ((h.n.belowAll hb).alloc _).setRowOther (by omega) _, ((h.o.belowAll hb).alloc _).setRowOther (by omega) _, ?_, by simp; omega⟩, (Blk.new wx 61 _).setRow _, by omega⟩
  exact below_setRow ((below_then h.below (by omega) hb).alloc (by omega) _) (by omega) _
theorem XI.next {w wr : World} {H : Nat} {key nonce out blk : List Int} (h : XI w wr H key nonce out blk) (i : Nat) (x : Int) :
    XI w (wr.setCell ⟨w.heap.size + 1 + 1, i, none⟩ (.int .u8 x)).drew H key nonce (out.set i x) blk := by
  have h1 := h.lt
  refine ⟨⟨(h.k.setOther (by simp; omega) _).drew, (h.n.setOther (by simp) _).drew, (h.o.setI i x).drew, (h.below.setCell (by simp; omega) _).drew, by simpa [World.setCell] using h.size⟩, (h.s.setOther (by simp; omega) _).drew, h1⟩

set_option maxHeartbeats 4000000 in
set_option maxRecDepth 100000 in
theorem xor_calls (key nonce xs : List Int) (c : Int) (A : Option Addr) (cap : Nat) (w : World) (hk : key.length = 32) (hn : nonce.length = 12) (rk : bytesOk key) (rn : bytesOk nonce) (hc : 0 ≤ c ∧ c < 4294967296)
    (hr : Rd w A .u8 xs) (hl : xs.length ≤ 1000000) :
    Calls Tryd.prog 32 #[.agg (ints .u8 key).toArray, .int .u32 c, .agg (ints .u8 nonce).toArray, .slice A xs.length cap] w fun e w' =>
      ∃ g, e = .returned (.slice (some ⟨g, 0, none⟩) xs.length xs.length) ∧ w.heap.size ≤ g ∧ Blk w' g 5 (ints .u8 (xorStream key c nonce xs)) ∧ Below w.heap.size w w' := by
  have HK := hid hk
  have HN := hid hn
  have HC := hid hc
  have HR := hid hr
  clear hk hn hc hr
  obtain ⟨n, hnx⟩ : ∃ n, Hd (n = xs.length) := ⟨_, hid rfl⟩
  rw [← hnx.out] at hl ⊢
  have hmk := run_make_row' (P := Tryd.prog) 24 5 (.int .u8 0) 1 undBytes infoU8 rfl .i64 .i64 n (by omega) (by omega)
  go_enter Tryd.func32, Tryd.ntmps32
  go_wp2_with fail
  clear hmk
  go_loopg [1, 10] (n + 64) (fun kq v1 v10 wr => ∃ j : Nat, v10 = .int .i64 (64 * (j : Int)) ∧ v1 = .int .u32 (ctr c j) ∧ Hd (kq + 64 * j = n + 64) ∧ XS w wr key nonce (xorTo key c nonce xs (min (64 * j) n)))
  case atStart =>
    refine ⟨0, rfl, by rw [ctr_zero HC.out], hid (by omega), ?_, ?_, ?_, ?_, ?_⟩
    · exact ((Blk.new w 23 (ints .u8 key)).alloc _).alloc _
    · exact (Blk.new' (w.alloc _) 47 (ints .u8 nonce) _ (by simp)).alloc _
    · rw [made_ints]
      have := Blk.new' ((w.alloc (.cells (ints .u8 key).toArray 23)).alloc (.cells (ints .u8 nonce).toArray 47)) 5 (ints .u8 (List.replicate n 0)) (w.heap.size + 1 + 1) (by simp)
      rw [show xorTo key c nonce xs (min (64 * 0) n) = List.replicate n 0 by simp [xorTo, hnx.out]]
      exact this
    · exact (((Below.refl _ _).alloc (Nat.le_refl _) _).alloc (by simp) _).alloc (by simp; omega) _
    · simp
  case round =>
    obtain ⟨j, rfl, rfl, hq, hS⟩ := hrel
    by_cases hlt : 64 * j < n
    · have hi1 : (64 * (j : Int)) < n := by omega
      have hd1 : decide ((64 * (j : Int)) < n) = true := by simp; omega
      have hk32 : (ints .u8 key).length = 32 := by simpa using HK.out
      have hn12 : (ints .u8 nonce).length = 12 := by simpa using HN.out
      go_wp2_with (first
        | (refine load_blk rfl 23 _ rfl w.heap.size rfl 23 _ hS.k 32 5 arr23 hk32 info23 ?_)
        | (refine load_blk rfl 47 _ rfl (w.heap.size + 1) rfl 47 _ hS.n 12 5 arr24 hn12 info24 ?_)
        | (go_at_call 39; refine (block_calls key nonce (ctr c j) _ HK.out HN.out rk rn (ctr_bound c j)).mono ?_; rintro e wx ⟨rfl, hb⟩)
        | (refine store_blk rfl 61 _ _ rfl wx.heap.size _ rfl rfl 61 _ (Blk.new wx 61 (ints .u8 (List.replicate 64 0))) 64 info44 (by simpa using block_length key (ctr c j) nonce) (by simp) (ints_one _ _) ?_))
      have hI := XI.start hS hb (blk := block key (ctr c j) nonce)
      clear hS hb hk32 hn12
      obtain ⟨H, hH⟩ : ∃ H, H = wx.heap.size := ⟨_, rfl⟩
      obtain ⟨wo, rfl⟩ : ∃ wo : World, wo = wr := ⟨_, rfl⟩
      obtain ⟨gk1, hgk⟩ : ∃ g : Nat, Hd (g = gk) := ⟨gk, hid rfl⟩
      have hq1 : Hd (gk1 + 64 * j = n + 64) := hid (by rw [hgk.out]; exact hq.out)
      have hm : min (64 * j) n = 64 * j := by omega
      rw [hm] at hI
      rw [← hH] at hI ⊢
      clear hH hm hq
      go_loopg [12] 64 (fun kq v12 wr => ∃ i : Nat, v12 = .int .i64 i ∧ 64 * j ≤ i ∧ i ≤ 64 * j + 64 ∧ i ≤ n ∧ Hd (kq + i = 64 * j + 64) ∧ XI w wr H key nonce (xorTo key c nonce xs i) (block key (ctr c j) nonce))
      case atStart => exact ⟨64 * j, by go_num, by omega, by omega, by omega, hid (by omega), hI⟩
      case round =>
        clear hI
        obtain ⟨i, rfl, hi1, hi2, hi3, hq, hI⟩ := hrel
        by_cases hlt2 : i < n ∧ i < 64 * j + 64
        · obtain ⟨hlt3, hlt4⟩ := hlt2
          obtain ⟨g, o, rfl⟩ := HR.out.at (by rw [← hnx.out]; omega)
          have cb := ((HR.out.below hI.below).cellAt i (by rw [← hnx.out]; omega))
          obtain ⟨k, hk, hk64⟩ : ∃ k : Nat, Hd (i = 64 * j + k) ∧ k < 64 := ⟨i - 64 * j, hid (by omega), by omega⟩
          have cs := hI.s.cellI k (by rw [block_length]; omega)
          have co := hI.o.cellI i (by rw [xorTo_length, ← hnx.out]; omega)
          have fo := hI.o.frozen i
          have hx : Hd (xorByte key c nonce xs i = bits .xor .u8 (rd xs i) (rd (block key (ctr c j) nonce) k)) := hid (by
            have e1 : i / 64 = j := by have := hk.out; omega
            have e2 : i % 64 = k := by have := hk.out; omega
            rw [xorByte, e1, e2])
          go_wp2_with fail
          all_goals
            have a1 : IntKind.i64.wrap ((i : Int) - 64 * (j : Int)) = (k : Int) := by
              have := hk.out
              rw [IntWalk.i64_in _ (by omega)]
              omega
            have a2 : (i : Int) < n := by omega
            have a3 : (k : Int) < 64 := by omega
            refine wp_region_still_tail 13 (by kernel_rfl) (by kernel_rfl) ?_
            simp only [List.take_succ_cons, List.take_zero, List.drop_succ_cons, List.drop_zero]
            change wpStill _ _ (World.drew _) (fun a' => wpList _ _ _ _ a' (World.drew _)) _ _
            repeat still_step
            refine wpStill_nil ?_
            change wpList _ _ _ _ _ _
            clear a1 a2 a3
            go_wp2_with fail
            go_roundg (gk - 1)
            case measure => have := hq.out; omega
            case rel =>
              refine ⟨i + 1, by go_num, by omega, by omega, by omega, hid (by have := hq.out; omega), ?_⟩
              rw [xorTo_succ, hx.out]
              exact hI.next i _
        · go_wp2_with fail
          all_goals
            go_roundg (gk1 - 64)
            case measure => have := hq1.out; have := hgk.out; omega
            case rel =>
              refine ⟨j + 1, by go_num, by rw [ctr_succ], hid (by have := hq1.out; omega), ?_⟩
              rw [show min (64 * (j + 1)) n = i by omega]
              exact hI.toXS
    · have hd1 : decide ((64 * (j : Int)) < n) = false := by simp; omega
      go_wp2_with fail
      go_ret
      rw [show min (64 * j) n = xs.length by rw [← hnx.out]; omega] at hS
      exact ⟨w.heap.size + 1 + 1, rfl, by omega, hS.o, hS.below⟩
end Go.Proofs.YtenjpmegnjdobaaDoor
/- append(s, make([]T, n)...): numbers, zeros behind them. -/
namespace Go.Cour
open Go.RowKit
theorem zeroCells_eq (k : IntKind) (n : Nat) : Builtin.zeroCells (Value.int k 0).cells n = (ints k (List.replicate n 0)).toArray := by
  apply Array.toList_inj.1
  have : Builtin.zeroCells (Value.int k 0).cells n = madeCells #[Value.int k 0] n := by simp [Builtin.zeroCells, madeCells, Value.cells]
  rw [this, toList_madeCells_one]
  simp [ints]
theorem growslice_le {old need bytes : Nat} (h : old < need) (hb : need * bytes ≤ 140737488355328) : Builtin.nextslicecap need old * bytes ≤ 281474976710656 := by
  have h1 := nextslicecap_le h
  calc Builtin.nextslicecap need old * bytes ≤ (2 * need) * bytes := Nat.mul_le_mul_right _ h1
    _ = 2 * (need * bytes) := Nat.mul_assoc _ _ _
    _ ≤ 281474976710656 := by omega
theorem run_append_zeros {P : Program} (w : World) (t tn ty e : TypeId) (k kq kn : IntKind) (bytes : Nat) (ht : P.underlying t = some (.slice e)) (htn : P.underlying tn = some (.int kn))
    (hi : (P.info? e).map (fun i => (i.zero, i.size, i.bytes)) = some (some (.int k 0), 1, bytes))
    (base : Nat) (v : Value) (xs : List Int) (hown : Own w base e k v xs) (m : Nat) (hbytes : (xs.length + m) * bytes ≤ 140737488355328) (h63 : xs.length + m ≤ 140737488355328) (hbase : base ≤ w.heap.size) :
    ∃ v' w', (Builtin.append_ #[t, tn] ty #[v, .int kq m]).run P w = .ok v' w' ∧ Own w' base e k v' (xs ++ List.replicate m 0) ∧ w.grownBy w' v.ownBlock := by
  obtain ⟨i, hi0, hz0, hz1, hz2⟩ := info_parts hi
  subst hz2
  have hmb : m * i.bytes ≤ 281474976710656 := Nat.le_trans (Nat.mul_le_mul_right _ (Nat.le_add_left _ _)) (Nat.le_trans hbytes (by omega))
  have hw : IntKind.i64.wrap (m : Int) = m := by rw [IntKind.wrap_i64]; omega
  have hneg : ¬ ((m : Int) < 0) := by omega
  have h48i : ¬ (281474976710656 < (m : Int) * (i.bytes : Int)) := by
    rw [← Int.natCast_mul]; omega
  have hw0 : IntKind.i64.wrap 0 = 0 := by rw [IntKind.wrap_i64]; rfl
  have hlen : (ints k (xs ++ List.replicate m 0)).length = (xs ++ List.replicate m 0).length * 1 := by simp [ints]
  by_cases hm : m = 0
  · subst hm
    refine ⟨v, w, ?_, by simpa using hown, ⟨rfl, rfl, rfl, Nat.le_refl _, fun _ _ _ => rfl⟩⟩
    rcases hown.2 with ⟨rfl, hx⟩ | ⟨g, cap, cur, rfl, hbg, hg, hnc, hcm, hcs, htake⟩
    · simp [Builtin.append_, run_underlying ht, run_underlying htn, sizeOf, typeInfo, hi0, asInt, asIntOf, hw0, hx]
    · simp [Builtin.append_, run_underlying ht, run_underlying htn, sizeOf, typeInfo, hi0, asInt, asIntOf, hw0, hnc, storeCells]
  · have hgrow : ∀ (base0 : Option Addr) (cap : Nat), (Builtin.firstCells i.size xs.length (.slice base0 xs.length cap)).run P w.drew = .ok (ints k xs).toArray w.drew → cap < xs.length + m →
        ∃ v' w', (Builtin.append_ #[t, tn] ty #[.slice base0 xs.length cap, .int kq m]).run P w = .ok v' w' ∧ Own w' base e k v' (xs ++ List.replicate m 0) ∧ ∀ row, w.grownBy w' row := by
      intro base0 cap hf hcap
      have hr := Lib.run_append_grow_zeros (P := P) w t tn ty e i (.int k 0) kq kn ht htn hi0 hz0 base0 xs.length cap (ints k xs) hf m (by omega) (by omega) hcap (by omega) hmb (growslice_le hcap hbytes)
      rw [zeroCells_eq, zeroCells_eq] at hr
      have hge := grownCap_ge w (xs.length + m) cap e
      have hcm : grownCap w (xs.length + m) cap e ≤ maxLen := grownCap_le_maxLen w (xs.length + m) cap e (by unfold maxLen; omega)
      refine ⟨_, _, hr, ⟨hlen, .inr ⟨w.heap.size, _, _, ?_, hbase, heap_alloc_new w.drew _, ?_, hcm, ?_, ?_⟩⟩, fun row => ⟨rfl, rfl, rfl, by simp, fun j hj _ => heap_alloc_old w.drew _ hj⟩⟩
      · simp
      · simpa using hge
      · simp [ints]; omega
      · simp only [Array.toList_append, Nat.mul_one]
        rw [ints_append, List.take_append_of_le_length (by simp [ints])]
        exact List.take_of_length_le (by simp [ints])
    rcases hown.2 with ⟨rfl, hx⟩ | ⟨g, cap, cur, rfl, hbg, hg, hnc, hcm, hcs, htake⟩
    · have hxs : xs = [] := List.length_eq_zero_iff.1 hx
      subst hxs
      obtain ⟨v', w', h1, h2, h3⟩ := hgrow none 0 (by simp [Builtin.firstCells, ints]) (by simp; omega)
      exact ⟨v', w', h1, h2, h3 _⟩
    · by_cases hroom : xs.length + m ≤ cap
      · have hst := run_storeCells_at (P := P) g xs.length e (ints k (List.replicate m 0)) 0 cur w hg (by simp [ints]; omega) (fun u hu => by
          obtain ⟨x, _, rfl⟩ := List.mem_map.1 hu; rfl)
        refine ⟨.slice (some ⟨g, 0, none⟩) (xs.length + m) cap, w.setRow g (cur.toList.take (xs.length + 0) ++ ints k (List.replicate m 0) ++ cur.toList.drop (xs.length + 0 + (ints k (List.replicate m 0)).length)).toArray, ?_, ⟨hlen, .inr ⟨g, cap, _, by simp, hbg, setRow_heap w g cur _ e (0, 0) hg, by simpa using hroom, hcm, ?_, ?_⟩⟩, ⟨rfl, rfl, rfl, by simp [World.setRow], fun j _ hj => setRow_other w g j _ (fun he => hj (by simp [Value.ownBlock, he]))⟩⟩
        · simp [Builtin.append_, run_underlying ht, run_underlying htn, sizeOf, typeInfo, zeroValue, hi0, hz0, hz1, asInt, asIntOf, hw, hneg, h48i, hroom, hm, zeroCells_eq, add_lit, hst]
        · simp [ints]; omega
        · have htk : cur.toList.take xs.length = ints k xs := by simpa using htake
          simp only [Nat.add_zero, Nat.mul_one]
          rw [htk, ints_append, List.take_append_of_le_length (by simp [ints])]
          exact List.take_of_length_le (by simp [ints])
      · have holds : ∀ (j : Nat) u, (ints k xs)[j]? = some u → w.cell? ((⟨g, 0, none⟩ : Addr).add j) = some u := World.ownsRow.cells (g := g) hown rfl
        obtain ⟨v', w', h1, h2, h3⟩ := hgrow (some ⟨g, 0, none⟩) cap (by
          have h9 := run_firstCells_some (P := P) w.drew i.size xs.length ⟨g, 0, none⟩ xs.length cap (ints k xs) (by simp [ints, hz1]) (by simpa using holds)
          exact h9) (by omega)
        exact ⟨v', w', h1, h2, h3 _⟩
/-- append(s, make([]T, n)...): s the call's own. -/
theorem append_zeros {P : Program} {w : World} {ops : Array Oper} {rest : List Oper} {o : Oper} {a : Act} {Q : Exit → Act → World → Prop} (hgd : o.guard = none) (s x : Operand) (t tn : TypeId)
    (ho : o.op = .call { callee := .builtin .append, args := #[s, x], argTypes := #[t, tn] })
    (base : Nat) (e : TypeId) (k kq kn : IntKind) (bytes : Nat) (ht : P.underlying t = some (.slice e)) (htn : P.underlying tn = some (.int kn)) (hi : (P.info? e).map (fun i => (i.zero, i.size, i.bytes)) = some (some (.int k 0), 1, bytes))
    (v : Value) (xs : List Int) (hs : a.eval s = v) (hown : Own w base e k v xs) (m : Nat) (hx : a.eval x = .int kq m)
    (hbytes : (xs.length + m) * bytes ≤ 140737488355328) (h63 : xs.length + m ≤ 140737488355328) (hbase : base ≤ w.heap.size)
    (h : ∀ v' w', Own w' base e k v' (xs ++ List.replicate m 0) → w.grownBy w' v.ownBlock → wpList P ops Q rest (a.put o.dst v') w') : wpList P ops Q (o :: rest) a w := by
  obtain ⟨v', w', hr, h1, h2⟩ := run_append_zeros (P := P) w t tn o.type e k kq kn bytes ht htn hi base v xs hown m hbytes h63 hbase
  exact Lib.wpList_append_run w hgd s x t tn ho v (.int kq m) hs hx v' w' hr (h v' w' h1 h2)
end Go.Cour
/- aead.padded, aead.length. -/
namespace Go.Proofs.YtenjpmegnjdobaaDoor
open Go.RowKit Go.Cour
/-- How many zeros fill n to sixteens. -/
def gap (n : Nat) : Nat := (16 - n % 16) % 16
def padTo (xs b : List Int) : List Int := xs ++ b ++ List.replicate (gap b.length) 0
theorem undI : Tryd.prog.underlying 3 = some (.int .i64) := by kernel_rfl
set_option maxHeartbeats 1000000 in
set_option maxRecDepth 100000 in
theorem padded_calls (base : Nat) (v : Value) (xs b : List Int) (A : Option Addr) (c n : Nat) (w : World) (hn : n = b.length) (hA : A = none → c = 0) (hr : Rd w A .u8 b) (hown : Own w base 5 .u8 v xs)
    (hl : xs.length ≤ 1000000) (hlb : b.length ≤ 1000000) (hbase : base ≤ w.heap.size) :
    Calls Tryd.prog 40 #[v, .slice A n c] w fun e w' => ∃ v', e = .returned v' ∧ Own w' base 5 .u8 v' (padTo xs b) ∧ Below base w w' := by
  subst hn
  have h1 : (b.length : Int).tmod 16 = ((b.length % 16 : Nat) : Int) := by
    rw [Int.tmod_eq_emod_of_nonneg (by omega)]; omega
  obtain ⟨r, hr0⟩ : ∃ r, r = b.length % 16 := ⟨_, rfl⟩
  rw [← hr0] at h1
  have h2 : IntKind.i64.wrap (16 - (r : Int)) = ((16 - r : Nat) : Int) := by rw [IntKind.wrap_i64]; omega
  obtain ⟨q, hq⟩ : ∃ q, q = 16 - r := ⟨_, rfl⟩
  rw [← hq] at h2
  have h3 : (q : Int).tmod 16 = ((gap b.length : Nat) : Int) := by
    rw [Int.tmod_eq_emod_of_nonneg (by omega)]; unfold gap; omega
  have hgap : gap b.length < 16 := by unfold gap; omega
  clear hq hr0
  go_enter Tryd.func40, Tryd.ntmps40
  go_wp2_with (first
    | (at_builtin; refine append_list rfl (.tmp 5) (.tmp 6) 24 rfl base 5 .u8 1 undBytes infoU8 _ xs rfl hown A b.length c b rfl rfl hA hr (by omega) (by omega) hbase ?_; intro v1 w1 ho1 hg1)
    | (at_builtin; refine append_zeros rfl (.tmp 8) (.tmp 13) 24 3 rfl base 5 .u8 .i64 .i64 1 undBytes undI infoU8 _ (xs ++ b) rfl ho1 (gap b.length) rfl (by simp; omega) (by simp; omega) (Nat.le_trans hbase hg1.size) ?_; intro v2 w2 ho2 hg2)
    | fail)
  go_ret
  have hB1 := hown.grown_below (Below.refl base w) hg1 hbase (Nat.le_refl _)
  have hB2 := ho1.grown_below hB1 hg2 (Nat.le_trans hbase hg1.size) (Nat.le_refl _)
  exact ⟨v2, by simp, ho2, hB2⟩
/-- A length, in eight bytes. -/
def lenTo (n : Nat) (i : Nat) : List Int := (List.range i).map fun j => (n : Int) / 2 ^ (8 * j) % 256
theorem lenTo_succ (n i : Nat) : lenTo n (i + 1) = lenTo n i ++ [(n : Int) / 2 ^ (8 * i) % 256] := by simp [lenTo, List.range_succ]
theorem lenTo_length (n i : Nat) : (lenTo n i).length = i := by simp [lenTo]
set_option maxHeartbeats 1000000 in
set_option maxRecDepth 100000 in
theorem length_calls (base : Nat) (v : Value) (xs : List Int) (A : Option Addr) (c n : Nat) (w : World) (hown : Own w base 5 .u8 v xs) (hl : xs.length ≤ 1000000) (hln : n ≤ 1000000) (hbase : base ≤ w.heap.size) :
    Calls Tryd.prog 42 #[v, .slice A n c] w fun e w' => ∃ v', e = .returned v' ∧ Own w' base 5 .u8 v' (xs ++ lenTo n 8) ∧ Below base w w' := by
  go_enter Tryd.func42, Tryd.ntmps42
  go_wp2
  go_loopg [0, 6] 8 (fun kq v0 v6 wr => ∃ i : Nat, i ≤ 8 ∧ v6 = .int .i64 i ∧ Hd (kq + i = 8) ∧ Own wr base 5 .u8 v0 (xs ++ lenTo n i) ∧ Hd (Below base w wr))
  case atStart => exact ⟨0, by omega, rfl, hid rfl, by simpa [lenTo] using hown, hid (Below.refl _ _)⟩
  case round =>
    obtain ⟨i, hi, rfl, hk, ho, hb⟩ := hrel
    by_cases hlt : i < 8
    · have hz : base ≤ wr.heap.size := Nat.le_trans hbase hb.out.size
      have hle : (xs ++ lenTo n i).length ≤ 1000008 := by rw [List.length_append, lenTo_length]; omega
      have HLE := hid hle
      clear hle
      go_wp2_with (first | (at_builtin; refine append_one rfl (.tmp 9) (.tmp 17) 24 rfl base 5 .u8 1 undBytes infoU8 _ (xs ++ lenTo n i) rfl ho _ rfl (by have := HLE.out; omega) (by have := HLE.out; omega) hz ?_; intro v' w1 ho' hg') | fail)
      go_roundg (gk - 1)
      case measure => have := hk.out; omega
      case rel =>
        refine ⟨i + 1, by omega, by go_num, hid (by have := hk.out; omega), ?_, hid (ho.grown_below hb.out hg' hz (Nat.le_refl _))⟩
        rw [lenTo_succ, ← List.append_assoc]; exact ho'
    · obtain rfl : i = 8 := by omega
      go_wp2
      go_ret
      exact ⟨_, by simp, ho, hb.out⟩
end Go.Proofs.YtenjpmegnjdobaaDoor
/- A region that draws its order: one fact for each operation, shown once; whatever the order, all facts hold behind it. -/
namespace Go.Cour
/-- What is known of an operation's value, and of the world; it speaks of the values of the operations idx only. -/
structure Fact where
  idx : List Nat
  p : (Nat → Value) → World → Prop
def Fact.at (f : Fact) (vs : Nat → Value) (w : World) : Prop := f.p (fun i => if f.idx.contains i then vs i else undef) w
theorem Fact.at_congr (f : Fact) {vs us : Nat → Value} (h : ∀ i ∈ f.idx, vs i = us i) {w : World} (hf : f.at vs w) : f.at us w := by
  unfold Fact.at at *
  have : (fun i => if f.idx.contains i then vs i else undef) = (fun i => if f.idx.contains i then us i else undef) := by
    funext i
    by_cases hc : f.idx.contains i = true
    · simp only [hc, if_true]; exact h i (by simpa using hc)
    · rw [if_neg hc, if_neg hc]
  rw [← this]; exact hf
/-- The operations' values, laid in their order. -/
def fill (vs : Nat → Value) : Nat → List Oper → Act → Act
  | _, [], a => a
  | k, o :: rest, a => fill vs (k + 1) rest (a.put o.dst (vs k))
def got (a : Act) : Option Tmp → Value
  | some d => a.tmps.getD d undef
  | none => undef
theorem put_defers (a : Act) (d : Option Tmp) (v : Value) : (a.put d v).defers = a.defers := by cases d <;> rfl
theorem put_size (a : Act) (d : Option Tmp) (v : Value) : (a.put d v).tmps.size = a.tmps.size := by cases d <;> simp [Act.put]
theorem put_other (a : Act) (d : Option Tmp) (v : Value) (t : Nat) (h : d ≠ some t) : (a.put d v).tmps[t]? = a.tmps[t]? := by
  cases d with
  | none => rfl
  | some e => exact Array.getElem?_setIfInBounds_ne (by intro he; exact h (by rw [he]))
theorem put_same (a : Act) (t : Nat) (v : Value) (h : t < a.tmps.size) : (a.put (some t) v).tmps[t]? = some v := by
  simp [Act.put, h]
theorem fill_defers (vs : Nat → Value) : ∀ (l : List Oper) (k : Nat) (a : Act), (fill vs k l a).defers = a.defers
  | [], _, _ => rfl
  | o :: l, k, a => by simp only [fill]; rw [fill_defers vs l, put_defers]
theorem fill_size (vs : Nat → Value) : ∀ (l : List Oper) (k : Nat) (a : Act), (fill vs k l a).tmps.size = a.tmps.size
  | [], _, _ => rfl
  | o :: l, k, a => by simp only [fill]; rw [fill_size vs l, put_size]
theorem fill_other (vs : Nat → Value) (t : Nat) : ∀ (l : List Oper) (k : Nat) (a : Act), (∀ o ∈ l, o.dst ≠ some t) → (fill vs k l a).tmps[t]? = a.tmps[t]?
  | [], _, _, _ => rfl
  | o :: l, k, a, h => by
    simp only [fill]
    rw [fill_other vs t l _ _ (fun o' ho' => h o' (List.mem_cons_of_mem _ ho')), put_other _ _ _ _ (h o (List.mem_cons_self ..))]
theorem fill_at (vs : Nat → Value) (t : Nat) : ∀ (l : List Oper) (k : Nat) (a : Act) (j : Nat) (o : Oper), l[j]? = some o → o.dst = some t → t < a.tmps.size →
    (∀ j' o', l[j']? = some o' → j' ≠ j → o'.dst ≠ some t) → (fill vs k l a).tmps[t]? = some (vs (k + j))
  | [], _, _, j, o, h, _, _, _ => by simp at h
  | o0 :: l, k, a, 0, o, h, hd, ht, hdist => by
    simp only [List.getElem?_cons_zero, Option.some.injEq] at h
    subst h
    simp only [fill]
    rw [fill_other vs t l _ _ (fun o' ho' => by
      obtain ⟨j', hj'⟩ := List.getElem?_of_mem ho'
      exact hdist (j' + 1) o' (by simpa using hj') (by omega)), hd, put_same _ _ _ ht]
    rfl
  | o0 :: l, k, a, j + 1, o, h, hd, ht, hdist => by
    simp only [fill]
    rw [fill_at vs t l (k + 1) _ j o (by simpa using h) hd (by rw [put_size]; exact ht) (fun j' o' h1 h2 => hdist (j' + 1) o' (by simpa using h1) (by omega))]
    congr 2; omega

/-- What stands behind operation i. -/
structure FPost (a0 : Act) (S : World → Prop) (R : World → World → Prop) (f : Fact) (i : Nat) (d : Option Tmp) (vs : Nat → Value) (w : World) (a' : Act) (w' : World) : Prop where
  defers : a'.defers = a0.defers
  fact : f.at (fun j => if j = i then got a' d else vs j) w'
  s : S w'
  r : R w w'
section
variable (P : Program) (ops : Array Oper) (a0 : Act) (S : World → Prop) (R : World → World → Prop) (F : Nat → Fact)
/-- Operation i, with what it waits for behind it, shows its fact. -/
def FStep (i : Nat) (o : Oper) : Prop := ∀ (vs : Nat → Value) (w : World), S w → (∀ e ∈ o.after, Region.binds .any e = true → (F e.on).at vs w) →
  wpList P ops (fun ex a' w' => match ex with
    | .normal => FPost a0 S R (F i) i o.dst vs w a' w'
    | _ => False) [o] (fill vs 0 (ops.toList.take i) a0) w
def FSteps : Nat → List Oper → Prop
  | _, [] => True
  | k, o :: rest => FStep P ops a0 S R F k o ∧ FSteps (k + 1) rest
theorem FSteps.get : ∀ (l : List Oper) (k : Nat), FSteps P ops a0 S R F k l → ∀ j o, l[j]? = some o → FStep P ops a0 S R F (k + j) o
  | [], _, _, j, o, h => by simp at h
  | o0 :: l, k, hs, 0, o, h => by simp only [List.getElem?_cons_zero, Option.some.injEq] at h; subst h; exact hs.1
  | o0 :: l, k, hs, j + 1, o, h => by
    have := FSteps.get l (k + 1) hs.2 j o (by simpa using h)
    rwa [show k + 1 + j = k + (j + 1) by omega] at this
end
/-- Operation k stands behind operation i, by n steps at most. -/
def waitsT (ops : Array Oper) : Nat → Nat → Nat → Bool
  | 0, k, i => k == i
  | n + 1, k, i => k == i || (match ops[k]? with
    | some o => o.after.any fun e => Region.binds .any e && waitsT ops n e.on i
    | none => false)
def isSelect : Op → Bool
  | .select _ _ => true
  | _ => false
/-- What the law asks of the region's text. -/
def chkOne (ops : Array Oper) (ix : List (List Nat)) (i : Nat) : Bool :=
  match ops[i]? with
  | none => true
  | some o => (o.after.all fun e => !Region.binds .any e || decide (e.on < i)) && !isSelect o.op &&
    ((o.looksAt ops).all fun t => (List.range ops.size).all fun j => (((ops[j]?).bind (·.dst)) != some t) || (Region.waitsFor .any ops i j) || (decide (i ≤ j) && waitsT ops 30 j i)) &&
    ((List.range ops.size).all fun j => j == i || o.dst.isNone || (((ops[j]?).bind (·.dst)) != o.dst)) &&
    ((ix.getD i []).all fun j => j == i || Region.waitsFor .any ops i j)
def chk (ops : Array Oper) (ix : List (List Nat)) : Bool := (List.range ops.size).all (chkOne ops ix)
structure Chk (ops : Array Oper) (ix : List (List Nat)) : Prop where
  back : ∀ (i : Nat) (o : Oper), ops[i]? = some o → ∀ e ∈ o.after, Region.binds .any e = true → e.on < i
  sel : ∀ (i : Nat) (o : Oper), ops[i]? = some o → ∀ cs b, o.op ≠ .select cs b
  looks : ∀ (i : Nat) (o : Oper), ops[i]? = some o → ∀ t ∈ o.looksAt ops, ∀ (j : Nat) (oj : Oper), ops[j]? = some oj → oj.dst = some t → (∃ e ∈ o.after, Region.binds .any e = true ∧ e.on = j) ∨ (i ≤ j ∧ waitsT ops 30 j i = true)
  dist : ∀ (i : Nat) (o : Oper), ops[i]? = some o → ∀ (j : Nat) (oj : Oper), ops[j]? = some oj → j ≠ i → ∀ t, o.dst = some t → oj.dst ≠ some t
  ixs : ∀ (i : Nat) (o : Oper), ops[i]? = some o → ∀ j ∈ ix.getD i [], j = i ∨ ∃ e ∈ o.after, Region.binds .any e = true ∧ e.on = j
theorem chk_spec {ops : Array Oper} {ix : List (List Nat)} (h : chk ops ix = true) : Chk ops ix := by
  have h1 : ∀ i o, ops[i]? = some o → chkOne ops ix i = true := fun i o ho =>
    List.all_eq_true.1 h i (List.mem_range.2 (Array.getElem?_eq_some_iff.1 ho).1)
  have wf : ∀ i o j, ops[i]? = some o → Region.waitsFor .any ops i j = true → ∃ e ∈ o.after, Region.binds .any e = true ∧ e.on = j := fun i o j ho hw => by
    obtain ⟨oj, hoj, e, he, hb, hon⟩ := Region.waitsFor_spec hw
    have : oj = o := Option.some.inj (hoj.symm.trans ho)
    subst this
    exact ⟨e, he, hb, hon⟩
  have h2 : ∀ i o, ops[i]? = some o → (((o.after.all fun e => !Region.binds .any e || decide (e.on < i)) = true ∧ isSelect o.op = false) ∧
    ((o.looksAt ops).all fun t => (List.range ops.size).all fun j => (((ops[j]?).bind (·.dst)) != some t) || (Region.waitsFor .any ops i j) || (decide (i ≤ j) && waitsT ops 30 j i)) = true) ∧
    ((List.range ops.size).all fun j => j == i || o.dst.isNone || (((ops[j]?).bind (·.dst)) != o.dst)) = true ∧
    ((ix.getD i []).all fun j => j == i || Region.waitsFor .any ops i j) = true := fun i o ho => by
    have := h1 i o ho
    unfold chkOne at this
    simp only [ho, Bool.and_eq_true, Bool.not_eq_true'] at this
    exact ⟨⟨this.1.1.1, this.1.1.2⟩, this.1.2, this.2⟩
  refine ⟨fun i o ho e he hb => ?_, fun i o ho cs b hs => ?_, fun i o ho t ht j oj hj hd => ?_, fun i o ho j oj hj hne t ht htj => ?_, fun i o ho j hj => ?_⟩
  · have := Array.all_eq_true'.1 (h2 i o ho).1.1.1 e he
    simpa [hb] using this
  · have := (h2 i o ho).1.1.2
    rw [hs] at this
    simp [isSelect] at this
  · have := List.all_eq_true.1 (List.all_eq_true.1 (h2 i o ho).1.2 t ht) j (List.mem_range.2 (Array.getElem?_eq_some_iff.1 hj).1)
    simp only [hj, Option.bind_some, hd, Bool.or_eq_true, bne_self_eq_false, Bool.false_eq_true, false_or, Bool.and_eq_true, decide_eq_true_eq] at this
    exact this.imp (wf i o j ho) id
  · have := List.all_eq_true.1 (h2 i o ho).2.1 j (List.mem_range.2 (Array.getElem?_eq_some_iff.1 hj).1)
    simp [hj, ht, htj, hne] at this
  · have := List.all_eq_true.1 (h2 i o ho).2.2 j hj
    simp only [Bool.or_eq_true, beq_iff_eq] at this
    exact this.imp id (wf i o j ho)

section
variable {P : Program} {ops : Array Oper} {a0 : Act} {S : World → Prop} {R : World → World → Prop} {ix : List (List Nat)} {p : Nat → (Nat → Value) → World → Prop} {Q : Exit → Act → World → Prop}
structure FInv (ops : Array Oper) (a0 : Act) (S : World → Prop) (F : Nat → Fact) (listed : Array Bool) (vs : Nat → Value) (a : Act) (w : World) : Prop where
  lsize : listed.size = ops.size
  closed : ∀ (j : Nat) (oj : Oper), ops[j]? = some oj → listed.getD j false = true → ∀ e ∈ oj.after, Region.binds .any e = true → listed.getD e.on false = true
  size : a.tmps.size = a0.tmps.size
  defers : a.defers = a0.defers
  slot : ∀ (j : Nat) (o : Oper) (d : Nat), ops[j]? = some o → listed.getD j false = true → o.dst = some d → d < a0.tmps.size → a.tmps[d]? = some (vs j)
  other : ∀ (t : Nat), (∀ (j : Nat) (o : Oper), ops[j]? = some o → listed.getD j false = true → o.dst ≠ some t) → a.tmps[t]? = a0.tmps[t]?
  s : S w
  facts : ∀ (j : Nat) (o : Oper), ops[j]? = some o → listed.getD j false = true → (F j).at vs w
theorem FInv.filled {F : Nat → Fact} {listed : Array Bool} {vs : Nat → Value} {a : Act} {w : World} (hc : Chk ops ix) (h : FInv ops a0 S F listed vs a w)
    (hall : ∀ j, j < ops.size → listed.getD j false = true) : a = fill vs 0 ops.toList a0 := by
  have ht : ∀ t : Nat, a.tmps[t]? = (fill vs 0 ops.toList a0).tmps[t]? := fun t => by
    by_cases hx : ∃ (j : Nat) (o : Oper), ops[j]? = some o ∧ o.dst = some t
    · obtain ⟨j, o, ho, hd⟩ := hx
      have hj := (Array.getElem?_eq_some_iff.1 ho).1
      by_cases hlt : t < a0.tmps.size
      · rw [h.slot j o t ho (hall j hj) hd hlt, fill_at vs t ops.toList 0 a0 j o (by simpa using ho) hd hlt (fun j' o' h1 h2 => hc.dist j o ho j' o' (by simpa using h1) h2 t hd)]
        simp
      · rw [Array.getElem?_eq_none (by rw [h.size]; omega), Array.getElem?_eq_none (by rw [fill_size]; omega)]
    · rw [h.other t (fun j o ho _ hd => hx ⟨j, o, ho, hd⟩), fill_other vs t _ _ _ (fun o ho hd => by
        obtain ⟨j, hj⟩ := List.getElem?_of_mem ho
        exact hx ⟨j, o, by simpa using hj, hd⟩)]
  have h1 : a.tmps = (fill vs 0 ops.toList a0).tmps := Array.ext_getElem? ht
  have h2 : a.defers = (fill vs 0 ops.toList a0).defers := by rw [fill_defers, h.defers]
  cases a; cases hf : fill vs 0 ops.toList a0
  rw [hf] at h1 h2
  simp_all
theorem FInv.waits {F : Nat → Fact} {listed : Array Bool} {vs : Nat → Value} {a : Act} {w : World} (h : FInv ops a0 S F listed vs a w) {i : Nat} (hun : listed.getD i true = false) :
    ∀ (n k : Nat), waitsT ops n k i = true → listed.getD k true = false
  | 0, k, hw => by
    have : k = i := by simpa [waitsT] using hw
    rw [this]; exact hun
  | n + 1, k, hw => by
    unfold waitsT at hw
    rw [Bool.or_eq_true] at hw
    rcases hw with hw | hw
    · have : k = i := by simpa using hw
      rw [this]; exact hun
    · cases ho : ops[k]? with
      | none => simp [ho] at hw
      | some o =>
        simp only [ho] at hw
        obtain ⟨e, he, hb⟩ := Array.any_eq_true'.1 hw
        simp only [Bool.and_eq_true] at hb
        have h1 := FInv.waits h hun n e.on hb.2
        have hlt := (Array.getElem?_eq_some_iff.1 ho).1
        cases hl : listed.getD k false with
        | false => exact getD_in (by rw [h.lsize]; exact hlt) hl
        | true =>
          have := h.closed k o ho hl e he hb.1
          rw [getD_both h1] at this
          cases this
/-- Where an operation looks, the state at hand and the state filled in order are alike. -/
theorem FInv.alike {F : Nat → Fact} {listed : Array Bool} {vs : Nat → Value} {a : Act} {w : World} (hc : Chk ops ix) (h : FInv ops a0 S F listed vs a w)
    {i : Nat} {o : Oper} (ho : ops[i]? = some o) (hd : ∀ e ∈ o.after, Region.binds .any e = true → listed.getD e.on false = true) (hun : listed.getD i true = false) (t : Nat) (ht : t ∈ o.looksAt ops) :
    a.tmps[t]? = (fill vs 0 (ops.toList.take i) a0).tmps[t]? := by
  by_cases hx : ∃ (j : Nat) (oj : Oper), ops[j]? = some oj ∧ oj.dst = some t
  · obtain ⟨j, oj, hj, hdj⟩ := hx
    rcases hc.looks i o ho t ht j oj hj hdj with ⟨e, he, hb, rfl⟩ | ⟨hij, hwt⟩
    case inr =>
      have hnl := h.waits hun 30 j hwt
      rw [h.other t (fun j' oj' hj' hl' hd' => by
        by_cases hjj : j' = j
        · subst hjj; rw [getD_both hnl] at hl'; cases hl'
        · exact hc.dist j oj hj j' oj' hj' hjj t hdj hd')]
      rw [fill_other vs t _ _ _ (fun oj' hoj' hdj' => by
        obtain ⟨j', hj'⟩ := List.getElem?_of_mem hoj'
        have hlt' : j' < i := by
          rcases Nat.lt_or_ge j' i with hh | hh
          · exact hh
          · rw [List.getElem?_take_eq_none hh] at hj'; cases hj'
        rw [List.getElem?_take_of_lt hlt'] at hj'
        exact hc.dist j oj hj j' oj' (by simpa using hj') (by omega) t hdj hdj')]
    have hlt := hc.back i o ho e he hb
    by_cases hs : t < a0.tmps.size
    · rw [h.slot _ oj t hj (hd e he hb) hdj hs, fill_at vs t _ 0 a0 e.on oj (by rw [List.getElem?_take_of_lt hlt]; simpa using hj) hdj hs (fun j' o' h1 h2 =>
        hc.dist e.on oj hj j' o' (by
          have : j' < i := by
            rcases Nat.lt_or_ge j' i with hh | hh
            · exact hh
            · rw [List.getElem?_take_eq_none hh] at h1; cases h1
          rw [List.getElem?_take_of_lt this] at h1; simpa using h1) h2 t hdj)]
      simp
    · rw [Array.getElem?_eq_none (by rw [h.size]; omega), Array.getElem?_eq_none (by rw [fill_size]; omega)]
  · rw [h.other t (fun j oj hj _ hdj => hx ⟨j, oj, hj, hdj⟩), fill_other vs t _ _ _ (fun oj hoj hdj => by
      obtain ⟨j, hj⟩ := List.getElem?_of_mem (List.mem_of_mem_take hoj)
      exact hx ⟨j, oj, by simpa using hj, hdj⟩)]
theorem facts_go (hc : Chk ops ix) (hR : ∀ j vs w w', R w w' → (Fact.mk (ix.getD j []) (p j)).at vs w → (Fact.mk (ix.getD j []) (p j)).at vs w')
    (hs : FSteps P ops a0 S R (fun i => ⟨ix.getD i [], p i⟩) 0 ops.toList)
    (hQ : ∀ vs w', (∀ j, j < ops.size → (Fact.mk (ix.getD j []) (p j)).at vs w') → S w' → Q .normal (fill vs 0 ops.toList a0) w') :
    ∀ (fuel : Nat) (listed : Array Bool) (U : List Nat) (vs : Nat → Value) (a : Act) (w : World), (∀ i, i < ops.size → listed.getD i true = false → i ∈ U) → U.length ≤ fuel →
      FInv ops a0 S (fun i => ⟨ix.getD i [], p i⟩) listed vs a w → wpAny P .any ops Q fuel listed a w := by
  have fin : ∀ (listed : Array Bool) (vs : Nat → Value) (a : Act) (w : World), FInv ops a0 S (fun i => ⟨ix.getD i [], p i⟩) listed vs a w → Region.ready .any ops listed = [] → Q .normal a w := fun listed vs a w hi hr => by
    have hall : ∀ n j, j < n → j < ops.size → listed.getD j false = true := fun n => by
      induction n with
      | zero => intro j hj; omega
      | succ n ih =>
        intro j hj hlt
        by_cases hjn : j < n
        · exact ih j hjn hlt
        · have hjn' : j = n := by omega
          subst hjn'
          cases hl : listed.getD j false with
          | true => rfl
          | false =>
            have hun := getD_in (by rw [hi.lsize]; exact hlt) hl
            have ho : ops[j]? = some ops[j] := Array.getElem?_eq_getElem hlt
            have : j ∈ Region.ready .any ops listed := mem_ready.2 ⟨hun, ops[j], ho, fun e he hb => ih e.on (hc.back j _ ho e he hb) (by have := hc.back j _ ho e he hb; omega)⟩
            rw [hr] at this
            cases this
    rw [hi.filled hc (fun j hj => hall (j + 1) j (by omega) hj)]
    exact hQ vs w (fun j hj => hi.facts j ops[j] (Array.getElem?_eq_getElem hj) (hall (j + 1) j (by omega) hj)) hi.s
  intro fuel
  induction fuel with
  | zero =>
    intro listed U vs a w hU hl hi
    have hr : Region.ready .any ops listed = [] := by
      rcases hx : Region.ready .any ops listed with _ | ⟨i, l⟩
      · rfl
      · have hm : i ∈ Region.ready .any ops listed := by rw [hx]; exact List.mem_cons_self ..
        obtain ⟨hun, o, ho, _⟩ := mem_ready.1 hm
        have := hU i (Array.getElem?_eq_some_iff.1 ho).1 hun
        have hU0 : U = [] := List.length_eq_zero_iff.1 (by omega)
        rw [hU0] at this
        cases this
    exact ⟨hr, fin listed vs a w hi hr⟩
  | succ fuel ih =>
    intro listed U vs a w hU hl hi
    refine ⟨fin listed vs a w hi, fun i hir => ?_⟩
    obtain ⟨hun, o, ho, hall⟩ := mem_ready.1 hir
    have hlt := (Array.getElem?_eq_some_iff.1 ho).1
    have hst := FSteps.get P ops a0 S R _ ops.toList 0 hs i o (by simpa using ho)
    rw [Nat.zero_add] at hst
    have hstep := hst vs w hi.s (fun e he hb => hi.facts e.on _ (Array.getElem?_eq_getElem (by have := hc.back i o ho e he hb; omega)) (hall e he hb))
    have hal := hi.alike hc ho hall hun
    have hex : execOp a.eval o = execOp (fill vs 0 (ops.toList.take i) a0).eval o := execOp_congr o (hc.sel i o ho) fun x hx => by
      cases x with
      | tmp t =>
        have ht : t ∈ o.looksAt ops := List.mem_append_left _ (List.mem_filterMap.2 ⟨.tmp t, by simpa using hx, rfl⟩)
        have := hal t ht
        simp only [Act.eval, Array.getD_eq_getD_getElem?, this]
      | _ => rfl
    have hwa : Region.wanted o (yielded ops a.tmps) = Region.wanted o (yielded ops (fill vs 0 (ops.toList.take i) a0).tmps) := by
      unfold Region.wanted
      cases hg : o.guard with
      | none => rfl
      | some g =>
        obtain ⟨g, want⟩ := g
        have : yielded ops a.tmps g = yielded ops (fill vs 0 (ops.toList.take i) a0).tmps g := by
          unfold yielded
          cases hgd : (ops[g]?).bind (·.dst) with
          | none => rfl
          | some t =>
            have ht : t ∈ o.looksAt ops := List.mem_append_right _ (by simp [hg, hgd])
            simp only [Option.bind_some, hal t ht]
        simp only [this]
    -- one operation's value lands
    have land : ∀ (u : Value) (w' : World), FPost a0 S R ⟨ix.getD i [], p i⟩ i o.dst vs w ((fill vs 0 (ops.toList.take i) a0).put o.dst u) w' →
        wpAny P .any ops Q fuel (listed.setIfInBounds i true) (a.put o.dst u) w' := fun u w' ⟨_, hf, hS, hRw⟩ => by
      refine ih _ (U.erase i) (fun j => if j = i then got ((fill vs 0 (ops.toList.take i) a0).put o.dst u) o.dst else vs j) _ _ (fun j hj hjl => ?_) ?_ ⟨?_, ?_, ?_, ?_, ?_, ?_, hS, ?_⟩
      · by_cases hij : i = j
        · subst hij
          have h0 : i < listed.size := by rw [hi.lsize]; exact hlt
          simp [h0] at hjl
        · rw [getD_set_ne true hij] at hjl
          exact (List.mem_erase_of_ne (Ne.symm hij)).2 (hU j hj hjl)
      · rw [List.length_erase_of_mem (hU i hlt hun)]; omega
      · simp [hi.lsize]
      · intro j oj hj hl' e he hb
        by_cases hij : i = j
        · subst hij
          have : oj = o := Option.some.inj (hj.symm.trans ho)
          subst this
          exact getD_set_true (hall e he hb)
        · rw [getD_set_ne false hij] at hl'
          exact getD_set_true (hi.closed j oj hj hl' e he hb)
      · rw [put_size, hi.size]
      · rw [put_defers, hi.defers]
      · intro j oj d hj hl' hd hds
        by_cases hij : i = j
        · subst hij
          have : oj = o := Option.some.inj (hj.symm.trans ho)
          subst this
          simp only [if_true, hd, got]
          rw [put_same _ _ _ (by rw [hi.size]; exact hds)]
          have h9 := put_same (fill vs 0 (ops.toList.take i) a0) d u (by rw [fill_size]; exact hds)
          simp only [Array.getD_eq_getD_getElem?, h9, Option.getD_some]
        · rw [getD_set_ne false hij] at hl'
          rw [put_other _ _ _ _ (fun hdo => hc.dist j oj hj i o ho hij d hd hdo), hi.slot j oj d hj hl' hd hds]
          simp [Ne.symm hij]
      · intro t ht
        have h1 : o.dst ≠ some t := ht i o ho (by
          have h0 : i < listed.size := by rw [hi.lsize]; exact hlt
          simp [h0])
        rw [put_other _ _ _ _ h1]
        exact hi.other t fun j oj hj hl' => ht j oj hj (getD_set_true hl')
      · intro j oj hj hl'
        by_cases hij : i = j
        · subst hij; exact hf
        · rw [getD_set_ne false hij] at hl'
          refine Fact.at_congr _ (fun k hk => ?_) (hR j vs w w' hRw (hi.facts j oj hj hl'))
          have hki : k ≠ i := fun hki => by
            subst hki
            rcases hc.ixs j oj hj k hk with h1 | ⟨e, he, hb, rfl⟩
            · exact hij h1
            · have := hi.closed j oj hj hl' e he hb
              rw [getD_both hun] at this
              cases this
          simp [hki]
    unfold wpOp
    simp only [ho]
    simp only [wpList] at hstep
    rw [hwa]
    split
    · rename_i hw
      simp only [hw, if_true] at hstep
      rcases hstep with hstep | ⟨_, _, _, hf⟩
      case inr => exact hf.elim
      refine .inl ?_
      unfold Oper.wp at *
      rw [hex]
      generalize (execOp (fill vs 0 (ops.toList.take i) a0).eval o).run P w = r at *
      cases r with
      | ok n w' =>
        cases n <;> simp only [Oper.upon] at hstep ⊢
        case value u => exact land u w' hstep
        case skip => exact land _ w' hstep
        case defer d =>
          have := hstep.1
          rw [put_defers, fill_defers] at this
          exact absurd (congrArg List.length this) (by simp)
        case enter f args =>
          refine Calls.mono hstep fun e w'' he => ?_
          cases e with
          | returned u => exact land u w'' he
          | panicked c => exact he.elim
          | outgrown => obtain ⟨_, _, hf⟩ := he; exact hf.elim
        case row row args => exact Rows.mono hstep fun u w'' he => land u w'' he
      | halt x w' =>
        cases x <;> simp only [Oper.upon] at hstep ⊢
    · rename_i hw
      simp only [hw, Bool.false_eq_true, if_false] at hstep
      exact land _ w hstep
/-- A region that draws its order, by facts. -/
theorem wp_region_facts {id : Nat} {a : Act} {w : World} (ix : List (List Nat)) (S : World → Prop) (R : World → World → Prop) (p : Nat → (Nat → Value) → World → Prop)
    (hm : P.follows .mixedOrders = true) (hc : chk ops ix = true) (hS : S w.drew)
    (hR : ∀ j vs w w', R w w' → (Fact.mk (ix.getD j []) (p j)).at vs w → (Fact.mk (ix.getD j []) (p j)).at vs w')
    (hs : FSteps P ops a S R (fun i => ⟨ix.getD i [], p i⟩) 0 ops.toList)
    (hQ : ∀ vs w', (∀ j, j < ops.size → (Fact.mk (ix.getD j []) (p j)).at vs w') → S w' → Q .normal (fill vs 0 ops.toList a) w') : (Code.region id ops true).wp P Q a w := by
  refine wp_region_any hm (facts_go (chk_spec hc) hR hs hQ ops.size _ (List.range ops.size) (fun _ => undef) a _ (fun i hi _ => List.mem_range.2 hi) (by simp) ⟨by simp, ?_, rfl, rfl, ?_, fun _ _ => rfl, hS, ?_⟩)
  · intro j oj _ hl; rw [getD_replicate_false] at hl; cases hl
  · intro j o d _ hl; rw [getD_replicate_false] at hl; cases hl
  · intro j o _ hl; rw [getD_replicate_false] at hl; cases hl
end
end Go.Cour
/- XFacts, with what holds ahead of an operation as long as it has not run (U), and a relation for each operation (R i). -/
namespace Go.Cour
/-- What stands behind operation i. -/
structure FPostU (a0 : Act) (S : World → Prop) (R : World → World → Prop) (f : Fact) (i : Nat) (d : Option Tmp) (vs : Nat → Value) (w : World) (a' : Act) (w' : World) : Prop where
  defers : a'.defers = a0.defers
  fact : f.at (fun j => if j = i then got a' d else vs j) w'
  s : S w'
  r : R w w'
/-- Each pair (j, i) of ks: what ends fact j stands behind operation i. -/
def chkKs (ops : Array Oper) (kill : Nat → Option Nat) (ks : List (Nat × Nat)) : Bool := ks.all fun x => match kill x.1 with
  | none => true
  | some k => waitsT ops 30 k x.2
section
variable (P : Program) (ops : Array Oper) (a0 : Act) (S : World → Prop) (R : Nat → World → World → Prop) (U : Nat → World → Prop) (kill : Nat → Option Nat) (ks : List (Nat × Nat)) (F : Nat → Fact)
/-- Operation i, with what it waits for behind it, shows its fact. -/
def FStepU (i : Nat) (o : Oper) : Prop := ∀ (vs : Nat → Value) (w : World), S w → U i w → (∀ e ∈ o.after, Region.binds .any e = true → (∀ k, kill e.on = some k → k = i ∨ (e.on, i) ∈ ks) → (F e.on).at vs w) →
  wpList P ops (fun ex a' w' => match ex with
    | .normal => FPostU a0 S (R i) (F i) i o.dst vs w a' w'
    | _ => False) [o] (fill vs 0 (ops.toList.take i) a0) w
def FStepsU : Nat → List Oper → Prop
  | _, [] => True
  | k, o :: rest => FStepU P ops a0 S R U kill ks F k o ∧ FStepsU (k + 1) rest
theorem FStepsU.get : ∀ (l : List Oper) (k : Nat), FStepsU P ops a0 S R U kill ks F k l → ∀ j o, l[j]? = some o → FStepU P ops a0 S R U kill ks F (k + j) o
  | [], _, _, j, o, h => by simp at h
  | o0 :: l, k, hs, 0, o, h => by simp only [List.getElem?_cons_zero, Option.some.injEq] at h; subst h; exact hs.1
  | o0 :: l, k, hs, j + 1, o, h => by
    have := FStepsU.get l (k + 1) hs.2 j o (by simpa using h)
    rwa [show k + 1 + j = k + (j + 1) by omega] at this
end
section
variable {P : Program} {ops : Array Oper} {a0 : Act} {S : World → Prop} {R : Nat → World → World → Prop} {U : Nat → World → Prop} {kill : Nat → Option Nat} {ks : List (Nat × Nat)} {ix : List (List Nat)} {p : Nat → (Nat → Value) → World → Prop} {Q : Exit → Act → World → Prop}
structure FInvU (ops : Array Oper) (a0 : Act) (S : World → Prop) (U : Nat → World → Prop) (kill : Nat → Option Nat) (F : Nat → Fact) (listed : Array Bool) (vs : Nat → Value) (a : Act) (w : World) : Prop where
  lsize : listed.size = ops.size
  closed : ∀ (j : Nat) (oj : Oper), ops[j]? = some oj → listed.getD j false = true → ∀ e ∈ oj.after, Region.binds .any e = true → listed.getD e.on false = true
  size : a.tmps.size = a0.tmps.size
  defers : a.defers = a0.defers
  slot : ∀ (j : Nat) (o : Oper) (d : Nat), ops[j]? = some o → listed.getD j false = true → o.dst = some d → d < a0.tmps.size → a.tmps[d]? = some (vs j)
  other : ∀ (t : Nat), (∀ (j : Nat) (o : Oper), ops[j]? = some o → listed.getD j false = true → o.dst ≠ some t) → a.tmps[t]? = a0.tmps[t]?
  s : S w
  unl : ∀ (j : Nat) (o : Oper), ops[j]? = some o → listed.getD j true = false → U j w
  facts : ∀ (j : Nat) (o : Oper), ops[j]? = some o → listed.getD j false = true → (∀ k, kill j = some k → listed.getD k true = false) → (F j).at vs w
theorem FInvU.filled {F : Nat → Fact} {listed : Array Bool} {vs : Nat → Value} {a : Act} {w : World} (hc : Chk ops ix) (h : FInvU ops a0 S U kill F listed vs a w)
    (hall : ∀ j, j < ops.size → listed.getD j false = true) : a = fill vs 0 ops.toList a0 := by
  have ht : ∀ t : Nat, a.tmps[t]? = (fill vs 0 ops.toList a0).tmps[t]? := fun t => by
    by_cases hx : ∃ (j : Nat) (o : Oper), ops[j]? = some o ∧ o.dst = some t
    · obtain ⟨j, o, ho, hd⟩ := hx
      have hj := (Array.getElem?_eq_some_iff.1 ho).1
      by_cases hlt : t < a0.tmps.size
      · rw [h.slot j o t ho (hall j hj) hd hlt, fill_at vs t ops.toList 0 a0 j o (by simpa using ho) hd hlt (fun j' o' h1 h2 => hc.dist j o ho j' o' (by simpa using h1) h2 t hd)]
        simp
      · rw [Array.getElem?_eq_none (by rw [h.size]; omega), Array.getElem?_eq_none (by rw [fill_size]; omega)]
    · rw [h.other t (fun j o ho _ hd => hx ⟨j, o, ho, hd⟩), fill_other vs t _ _ _ (fun o ho hd => by
        obtain ⟨j, hj⟩ := List.getElem?_of_mem ho
        exact hx ⟨j, o, by simpa using hj, hd⟩)]
  have h1 : a.tmps = (fill vs 0 ops.toList a0).tmps := Array.ext_getElem? ht
  have h2 : a.defers = (fill vs 0 ops.toList a0).defers := by rw [fill_defers, h.defers]
  cases a; cases hf : fill vs 0 ops.toList a0
  rw [hf] at h1 h2
  simp_all
theorem FInvU.waits {F : Nat → Fact} {listed : Array Bool} {vs : Nat → Value} {a : Act} {w : World} (h : FInvU ops a0 S U kill F listed vs a w) {i : Nat} (hun : listed.getD i true = false) :
    ∀ (n k : Nat), waitsT ops n k i = true → listed.getD k true = false
  | 0, k, hw => by
    have : k = i := by simpa [waitsT] using hw
    rw [this]; exact hun
  | n + 1, k, hw => by
    unfold waitsT at hw
    rw [Bool.or_eq_true] at hw
    rcases hw with hw | hw
    · have : k = i := by simpa using hw
      rw [this]; exact hun
    · cases ho : ops[k]? with
      | none => simp [ho] at hw
      | some o =>
        simp only [ho] at hw
        obtain ⟨e, he, hb⟩ := Array.any_eq_true'.1 hw
        simp only [Bool.and_eq_true] at hb
        have h1 := FInvU.waits h hun n e.on hb.2
        have hlt := (Array.getElem?_eq_some_iff.1 ho).1
        cases hl : listed.getD k false with
        | false => exact getD_in (by rw [h.lsize]; exact hlt) hl
        | true =>
          have := h.closed k o ho hl e he hb.1
          rw [getD_both h1] at this
          cases this
/-- Where an operation looks, the state at hand and the state filled in order are alike. -/
theorem FInvU.alike {F : Nat → Fact} {listed : Array Bool} {vs : Nat → Value} {a : Act} {w : World} (hc : Chk ops ix) (h : FInvU ops a0 S U kill F listed vs a w)
    {i : Nat} {o : Oper} (ho : ops[i]? = some o) (hd : ∀ e ∈ o.after, Region.binds .any e = true → listed.getD e.on false = true) (hun : listed.getD i true = false) (t : Nat) (ht : t ∈ o.looksAt ops) :
    a.tmps[t]? = (fill vs 0 (ops.toList.take i) a0).tmps[t]? := by
  by_cases hx : ∃ (j : Nat) (oj : Oper), ops[j]? = some oj ∧ oj.dst = some t
  · obtain ⟨j, oj, hj, hdj⟩ := hx
    rcases hc.looks i o ho t ht j oj hj hdj with ⟨e, he, hb, rfl⟩ | ⟨hij, hwt⟩
    case inr =>
      have hnl := h.waits hun 30 j hwt
      rw [h.other t (fun j' oj' hj' hl' hd' => by
        by_cases hjj : j' = j
        · subst hjj; rw [getD_both hnl] at hl'; cases hl'
        · exact hc.dist j oj hj j' oj' hj' hjj t hdj hd')]
      rw [fill_other vs t _ _ _ (fun oj' hoj' hdj' => by
        obtain ⟨j', hj'⟩ := List.getElem?_of_mem hoj'
        have hlt' : j' < i := by
          rcases Nat.lt_or_ge j' i with hh | hh
          · exact hh
          · rw [List.getElem?_take_eq_none hh] at hj'; cases hj'
        rw [List.getElem?_take_of_lt hlt'] at hj'
        exact hc.dist j oj hj j' oj' (by simpa using hj') (by omega) t hdj hdj')]
    have hlt := hc.back i o ho e he hb
    by_cases hs : t < a0.tmps.size
    · rw [h.slot _ oj t hj (hd e he hb) hdj hs, fill_at vs t _ 0 a0 e.on oj (by rw [List.getElem?_take_of_lt hlt]; simpa using hj) hdj hs (fun j' o' h1 h2 =>
        hc.dist e.on oj hj j' o' (by
          have : j' < i := by
            rcases Nat.lt_or_ge j' i with hh | hh
            · exact hh
            · rw [List.getElem?_take_eq_none hh] at h1; cases h1
          rw [List.getElem?_take_of_lt this] at h1; simpa using h1) h2 t hdj)]
      simp
    · rw [Array.getElem?_eq_none (by rw [h.size]; omega), Array.getElem?_eq_none (by rw [fill_size]; omega)]
  · rw [h.other t (fun j oj hj _ hdj => hx ⟨j, oj, hj, hdj⟩), fill_other vs t _ _ _ (fun oj hoj hdj => by
      obtain ⟨j, hj⟩ := List.getElem?_of_mem (List.mem_of_mem_take hoj)
      exact hx ⟨j, oj, by simpa using hj, hdj⟩)]
theorem factsU_go (hks : chkKs ops kill ks = true) (hc : Chk ops ix) (hR : ∀ i j vs w w', i ≠ j → Region.waitsFor .any ops j i = false → kill j ≠ some i → R i w w' → (Fact.mk (ix.getD j []) (p j)).at vs w → (Fact.mk (ix.getD j []) (p j)).at vs w')
    (hU : ∀ i j w w', i ≠ j → Region.waitsFor .any ops i j = false → R i w w' → U j w → U j w')
    (hs : FStepsU P ops a0 S R U kill ks (fun i => ⟨ix.getD i [], p i⟩) 0 ops.toList)
    (hQ : ∀ vs w', (∀ j, j < ops.size → kill j = none → (Fact.mk (ix.getD j []) (p j)).at vs w') → S w' → Q .normal (fill vs 0 ops.toList a0) w') :
    ∀ (fuel : Nat) (listed : Array Bool) (LL : List Nat) (vs : Nat → Value) (a : Act) (w : World), (∀ i, i < ops.size → listed.getD i true = false → i ∈ LL) → LL.length ≤ fuel →
      FInvU ops a0 S U kill (fun i => ⟨ix.getD i [], p i⟩) listed vs a w → wpAny P .any ops Q fuel listed a w := by
  have fin : ∀ (listed : Array Bool) (vs : Nat → Value) (a : Act) (w : World), FInvU ops a0 S U kill (fun i => ⟨ix.getD i [], p i⟩) listed vs a w → Region.ready .any ops listed = [] → Q .normal a w := fun listed vs a w hi hr => by
    have hall : ∀ n j, j < n → j < ops.size → listed.getD j false = true := fun n => by
      induction n with
      | zero => intro j hj; omega
      | succ n ih =>
        intro j hj hlt
        by_cases hjn : j < n
        · exact ih j hjn hlt
        · have hjn' : j = n := by omega
          subst hjn'
          cases hl : listed.getD j false with
          | true => rfl
          | false =>
            have hun := getD_in (by rw [hi.lsize]; exact hlt) hl
            have ho : ops[j]? = some ops[j] := Array.getElem?_eq_getElem hlt
            have : j ∈ Region.ready .any ops listed := mem_ready.2 ⟨hun, ops[j], ho, fun e he hb => ih e.on (hc.back j _ ho e he hb) (by have := hc.back j _ ho e he hb; omega)⟩
            rw [hr] at this
            cases this
    rw [hi.filled hc (fun j hj => hall (j + 1) j (by omega) hj)]
    exact hQ vs w (fun j hj hkn => hi.facts j ops[j] (Array.getElem?_eq_getElem hj) (hall (j + 1) j (by omega) hj) (fun k hk => by rw [hkn] at hk; cases hk)) hi.s
  intro fuel
  induction fuel with
  | zero =>
    intro listed LL vs a w hLL hl hi
    have hr : Region.ready .any ops listed = [] := by
      rcases hx : Region.ready .any ops listed with _ | ⟨i, l⟩
      · rfl
      · have hm : i ∈ Region.ready .any ops listed := by rw [hx]; exact List.mem_cons_self ..
        obtain ⟨hun, o, ho, _⟩ := mem_ready.1 hm
        have := hLL i (Array.getElem?_eq_some_iff.1 ho).1 hun
        have hL0 : LL = [] := List.length_eq_zero_iff.1 (by omega)
        rw [hL0] at this
        cases this
    exact ⟨hr, fin listed vs a w hi hr⟩
  | succ fuel ih =>
    intro listed LL vs a w hLL hl hi
    refine ⟨fin listed vs a w hi, fun i hir => ?_⟩
    obtain ⟨hun, o, ho, hall⟩ := mem_ready.1 hir
    have hlt := (Array.getElem?_eq_some_iff.1 ho).1
    have hst := FStepsU.get P ops a0 S R U kill ks _ ops.toList 0 hs i o (by simpa using ho)
    rw [Nat.zero_add] at hst
    have hstep := hst vs w hi.s (hi.unl i o ho hun) (fun e he hb hkk => hi.facts e.on _ (Array.getElem?_eq_getElem (by have := hc.back i o ho e he hb; omega)) (hall e he hb) (fun k hk => by
      rcases hkk k hk with h9 | h9
      · rw [h9]; exact hun
      · have h8 := List.all_eq_true.1 hks _ h9
        simp only [hk] at h8
        exact hi.waits hun 30 k h8))
    have hal := hi.alike hc ho hall hun
    have hex : execOp a.eval o = execOp (fill vs 0 (ops.toList.take i) a0).eval o := execOp_congr o (hc.sel i o ho) fun x hx => by
      cases x with
      | tmp t =>
        have ht : t ∈ o.looksAt ops := List.mem_append_left _ (List.mem_filterMap.2 ⟨.tmp t, by simpa using hx, rfl⟩)
        have := hal t ht
        simp only [Act.eval, Array.getD_eq_getD_getElem?, this]
      | _ => rfl
    have hwa : Region.wanted o (yielded ops a.tmps) = Region.wanted o (yielded ops (fill vs 0 (ops.toList.take i) a0).tmps) := by
      unfold Region.wanted
      cases hg : o.guard with
      | none => rfl
      | some g =>
        obtain ⟨g, want⟩ := g
        have : yielded ops a.tmps g = yielded ops (fill vs 0 (ops.toList.take i) a0).tmps g := by
          unfold yielded
          cases hgd : (ops[g]?).bind (·.dst) with
          | none => rfl
          | some t =>
            have ht : t ∈ o.looksAt ops := List.mem_append_right _ (by simp [hg, hgd])
            simp only [Option.bind_some, hal t ht]
        simp only [this]
    -- one operation's value lands
    have land : ∀ (u : Value) (w' : World), FPostU a0 S (R i) ⟨ix.getD i [], p i⟩ i o.dst vs w ((fill vs 0 (ops.toList.take i) a0).put o.dst u) w' →
        wpAny P .any ops Q fuel (listed.setIfInBounds i true) (a.put o.dst u) w' := fun u w' ⟨_, hf, hS, hRw⟩ => by
      refine ih _ (LL.erase i) (fun j => if j = i then got ((fill vs 0 (ops.toList.take i) a0).put o.dst u) o.dst else vs j) _ _ (fun j hj hjl => ?_) ?_ ⟨?_, ?_, ?_, ?_, ?_, ?_, hS, ?_, ?_⟩
      · by_cases hij : i = j
        · subst hij
          have h0 : i < listed.size := by rw [hi.lsize]; exact hlt
          simp [h0] at hjl
        · rw [getD_set_ne true hij] at hjl
          exact (List.mem_erase_of_ne (Ne.symm hij)).2 (hLL j hj hjl)
      · rw [List.length_erase_of_mem (hLL i hlt hun)]; omega
      · simp [hi.lsize]
      · intro j oj hj hl' e he hb
        by_cases hij : i = j
        · subst hij
          have : oj = o := Option.some.inj (hj.symm.trans ho)
          subst this
          exact getD_set_true (hall e he hb)
        · rw [getD_set_ne false hij] at hl'
          exact getD_set_true (hi.closed j oj hj hl' e he hb)
      · rw [put_size, hi.size]
      · rw [put_defers, hi.defers]
      · intro j oj d hj hl' hd hds
        by_cases hij : i = j
        · subst hij
          have : oj = o := Option.some.inj (hj.symm.trans ho)
          subst this
          simp only [if_true, hd, got]
          rw [put_same _ _ _ (by rw [hi.size]; exact hds)]
          have h9 := put_same (fill vs 0 (ops.toList.take i) a0) d u (by rw [fill_size]; exact hds)
          simp only [Array.getD_eq_getD_getElem?, h9, Option.getD_some]
        · rw [getD_set_ne false hij] at hl'
          rw [put_other _ _ _ _ (fun hdo => hc.dist j oj hj i o ho hij d hd hdo), hi.slot j oj d hj hl' hd hds]
          simp [Ne.symm hij]
      · intro t ht
        have h1 : o.dst ≠ some t := ht i o ho (by
          have h0 : i < listed.size := by rw [hi.lsize]; exact hlt
          simp [h0])
        rw [put_other _ _ _ _ h1]
        exact hi.other t fun j oj hj hl' => ht j oj hj (getD_set_true hl')
      · intro j oj hj hl'
        by_cases hij : i = j
        · subst hij
          have h0 : i < listed.size := by rw [hi.lsize]; exact hlt
          simp [h0] at hl'
        · rw [getD_set_ne true hij] at hl'
          refine hU i j w w' hij ?_ hRw (hi.unl j oj hj hl')
          cases hwf : Region.waitsFor .any ops i j with
          | false => rfl
          | true =>
            obtain ⟨oi, hoi, e, he, hb, rfl⟩ := Region.waitsFor_spec hwf
            have : oi = o := Option.some.inj (hoi.symm.trans ho)
            subst this
            have := hall e he hb
            rw [getD_both hl'] at this
            cases this
      · intro j oj hj hl' hkl
        by_cases hij : i = j
        · subst hij; exact hf
        · rw [getD_set_ne false hij] at hl'
          have hwn : Region.waitsFor .any ops j i = false := by
            cases hwf : Region.waitsFor .any ops j i with
            | false => rfl
            | true =>
              obtain ⟨oj', hoj, e, he, hb, rfl⟩ := Region.waitsFor_spec hwf
              have : oj' = oj := Option.some.inj (hoj.symm.trans hj)
              subst this
              have := hi.closed j oj' hj hl' e he hb
              rw [getD_both hun] at this
              cases this
          have hkn : kill j ≠ some i := by
            intro hk
            have h0 : i < listed.size := by rw [hi.lsize]; exact hlt
            have := hkl i hk
            simp [h0] at this
          have hkk : ∀ k, kill j = some k → listed.getD k true = false := by
            intro k hk
            by_cases hik : i = k
            · subst hik; exact hun
            · have := hkl k hk
              rwa [getD_set_ne true hik] at this
          refine Fact.at_congr _ (fun k hk => ?_) (hR i j vs w w' hij hwn hkn hRw (hi.facts j oj hj hl' hkk))
          have hki : k ≠ i := fun hki => by
            subst hki
            rcases hc.ixs j oj hj k hk with h1 | ⟨e, he, hb, rfl⟩
            · exact hij h1
            · have := hi.closed j oj hj hl' e he hb
              rw [getD_both hun] at this
              cases this
          simp [hki]
    unfold wpOp
    simp only [ho]
    simp only [wpList] at hstep
    rw [hwa]
    split
    · rename_i hw
      simp only [hw, if_true] at hstep
      rcases hstep with hstep | ⟨_, _, _, hf⟩
      case inr => exact hf.elim
      refine .inl ?_
      unfold Oper.wp at *
      rw [hex]
      generalize (execOp (fill vs 0 (ops.toList.take i) a0).eval o).run P w = r at *
      cases r with
      | ok n w' =>
        cases n <;> simp only [Oper.upon] at hstep ⊢
        case value u => exact land u w' hstep
        case skip => exact land _ w' hstep
        case defer d =>
          have := hstep.1
          rw [put_defers, fill_defers] at this
          exact absurd (congrArg List.length this) (by simp)
        case enter f args =>
          refine Calls.mono hstep fun e w'' he => ?_
          cases e with
          | returned u => exact land u w'' he
          | panicked c => exact he.elim
          | outgrown => obtain ⟨_, _, hf⟩ := he; exact hf.elim
        case row row args => exact Rows.mono hstep fun u w'' he => land u w'' he
      | halt x w' =>
        cases x <;> simp only [Oper.upon] at hstep ⊢
    · rename_i hw
      simp only [hw, Bool.false_eq_true, if_false] at hstep
      exact land _ w hstep
/-- A region that draws its order, by facts. -/
theorem wp_region_factsU {id : Nat} {a : Act} {w : World} (ix : List (List Nat)) (S : World → Prop) (R : Nat → World → World → Prop) (U : Nat → World → Prop) (kill : Nat → Option Nat) (p : Nat → (Nat → Value) → World → Prop) (ks : List (Nat × Nat) := [])
    (hm : P.follows .mixedOrders = true) (hc : chk ops ix = true) (hS : S w.drew)
    (hR : ∀ i j vs w w', i ≠ j → Region.waitsFor .any ops j i = false → kill j ≠ some i → R i w w' → (Fact.mk (ix.getD j []) (p j)).at vs w → (Fact.mk (ix.getD j []) (p j)).at vs w')
    (hU0 : ∀ j, U j w.drew) (hU : ∀ i j w w', i ≠ j → Region.waitsFor .any ops i j = false → R i w w' → U j w → U j w')
    (hs : FStepsU P ops a S R U kill ks (fun i => ⟨ix.getD i [], p i⟩) 0 ops.toList)
    (hQ : ∀ vs w', (∀ j, j < ops.size → kill j = none → (Fact.mk (ix.getD j []) (p j)).at vs w') → S w' → Q .normal (fill vs 0 ops.toList a) w') (hks : chkKs ops kill ks = true := by kernel_rfl) : (Code.region id ops true).wp P Q a w := by
  refine wp_region_any hm (factsU_go hks (chk_spec hc) hR hU hs hQ ops.size _ (List.range ops.size) (fun _ => undef) a _ (fun i hi _ => List.mem_range.2 hi) (by simp) ⟨by simp, ?_, rfl, rfl, ?_, fun _ _ => rfl, hS, fun j _ _ _ => hU0 j, ?_⟩)
  · intro j oj _ hl; rw [getD_replicate_false] at hl; cases hl
  · intro j o d _ hl; rw [getD_replicate_false] at hl; cases hl
  · intro j o _ hl _; rw [getD_replicate_false] at hl; cases hl
end
end Go.Cour
/- aead.tag. -/
namespace Go.Proofs.YtenjpmegnjdobaaDoor
open Go.RowKit Go.Cour
theorem gap_lt (n : Nat) : gap n < 16 := by unfold gap; omega
theorem padTo_length (xs b : List Int) : (padTo xs b).length = xs.length + b.length + gap b.length := by simp [padTo]; omega
theorem take_get {xs : List Int} {n j : Nat} {v : Value} (h : (ints .u8 (xs.take n))[j]? = some v) : (ints .u8 xs)[j]? = some v := by
  rw [ints, List.map_take] at h
  rw [List.getElem?_take] at h
  split at h
  · exact h
  · cases h
/-- What a tag is of. -/
def tagText (ad b : List Int) : List Int := padTo (padTo [] ad) b ++ lenTo ad.length 8 ++ lenTo b.length 8
def tagOf (key nonce ad b : List Int) : List Int := polySum ((block key 0 nonce).take 32) (tagText ad b)
theorem zeroT16 : ((Tryd.prog.info? 57).bind (·.zero)).map (·.cells) = some (ints .u8 (List.replicate 16 0)).toArray := by kernel_rfl
theorem zeroT64 : ((Tryd.prog.info? 61).bind (·.zero)).map (·.cells) = some (ints .u8 (List.replicate 64 0)).toArray := by kernel_rfl
theorem infoT16 : (Tryd.prog.info? 57).map (·.size) = some 16 := by kernel_rfl
theorem infoT64 : (Tryd.prog.info? 61).map (·.size) = some 64 := by kernel_rfl
theorem undT64 : Tryd.prog.underlying 61 = some (.array 64 5) := by kernel_rfl
theorem undT16 : Tryd.prog.underlying 57 = some (.array 16 5) := by kernel_rfl
/-- A slice taken for a pointer to an array of no more elements. -/
theorem arr_ptr {P : Program} {ops : Array Oper} {rest : List Oper} {o : Oper} {a : Act} {w : World} {Q : Exit → Act → World → Prop} (hgd : o.guard = none) (ty : TypeId) (x : Operand) (ho : o.op = .sliceToArrayPointer ty x)
    (A : Addr) (len cap n : Nat) (e : TypeId) (hx : a.eval x = .slice (some A) len cap) (hu : P.underlying ty = some (.array n e)) (hl : n ≤ len)
    (h : wpList P ops Q rest (a.put o.dst (.pointer (some A))) w) : wpList P ops Q (o :: rest) a w := by
  have hl2 : ¬ len < n := by omega
  refine wpList_plain hgd fun K hK => ?_
  unfold Oper.wp execOp
  simp [ho, hx, Instr.arrayAt, run_underlying hu, hl2]
  exact hK _ _ h
/-- What stays while a tag's last part is reckoned. -/
structure TagS (w : World) (g8 g9 B1 : Nat) (cs : List Int) (w' : World) : Prop where
  blk : Blk w' g9 61 (ints .u8 cs)
  bel : Below w.heap.size w w'
  size : B1 ≤ w'.heap.size
  out : ∃ old, Blk w' g8 57 old ∧ old.length = 16
theorem TagS.below {w : World} {g8 g9 B1 : Nat} {cs : List Int} {w' w2 : World} (h : TagS w g8 g9 B1 cs w') (hb : Below B1 w' w2) (h8 : g8 < B1) (h9 : g9 < B1) (hw : w.heap.size ≤ B1) : TagS w g8 g9 B1 cs w2 := by
  obtain ⟨old, h1, h2⟩ := h.out
  exact ⟨h.blk.below hb h9, ⟨hb.os.trans h.bel.os, hb.tape.trans h.bel.tape, hb.output.trans h.bel.output, Nat.le_trans h.bel.size hb.size, fun k hk => (hb.block k (by omega)).trans (h.bel.block k hk)⟩,
    Nat.le_trans h.size hb.size, old, h1.below hb h8, h2⟩
set_option maxHeartbeats 400000 in
set_option maxRecDepth 100000 in
theorem tag_calls (key nonce ad b : List Int) (A A' : Option Addr) (c c' n n' : Nat) (w : World) (hk : key.length = 32) (hnl : nonce.length = 12) (rk : bytesOk key) (rn : bytesOk nonce)
    (hn : n = ad.length) (hA : A = none → c = 0) (hr : Rd w A .u8 ad) (hn' : n' = b.length) (hA' : A' = none → c' = 0) (hr' : Rd w A' .u8 b) (hla : ad.length ≤ 100000) (hlb : b.length ≤ 100000) :
    Calls Tryd.prog 33 #[.agg (ints .u8 key).toArray, .agg (ints .u8 nonce).toArray, .slice A n c, .slice A' n' c'] w fun e w' => e = .returned (.agg (ints .u8 (tagOf key nonce ad b)).toArray) ∧ Below w.heap.size w w' := by
  subst hn hn'
  have HK := hid hk
  have HN := hid hnl
  go_enter Tryd.func33, Tryd.ntmps33
  go_wp2_with (first
    | (refine box_blk rfl 23 _ rfl _ rfl (ints .u8 key) rfl ?_; intro g4 w1 hg4 hb4 hB1 hs1)
    | (refine box_blk rfl 47 _ rfl _ rfl (ints .u8 nonce) rfl ?_; intro g5 w2 hg5 hb5 hB2 hs2
       have hb4' := hb4.belowAll hB2)
    | (refine alloc_blk rfl 57 rfl _ rfl (ints .u8 (List.replicate 16 0)) zeroT16 ?_; intro g8 w3 hg8 hb8 hB3 hs3
       have hb4'' := hb4'.belowAll hB3
       have hb5' := hb5.belowAll hB3)
    | (refine load_blk rfl 23 _ rfl g4 rfl 23 _ hb4'' 32 5 arr23 (by simp [ints, hk]) info23 ?_)
    | (refine load_blk rfl 47 _ rfl g5 rfl 47 _ hb5' 12 5 arr24 (by simp [ints, hnl]) info24 ?_)
    | (go_at_call 39; refine (block_calls key nonce 0 w3 hk hnl rk rn (by omega)).mono ?_; rintro e w4 ⟨rfl, hB4⟩)
    | (refine alloc_blk rfl 61 rfl _ rfl (ints .u8 (List.replicate 64 0)) zeroT64 ?_; intro g9 w5 hg9 hb9 hB5 hs5)
    | (refine store_blk rfl 61 _ _ rfl g9 (ints .u8 (block key 0 nonce)) rfl rfl 61 _ hb9 64 infoT64 (by simp [ints, block_length]) (by simp [ints]) (ints_one _ _) ?_
       have hb9' := hb9.setRow (ints .u8 (block key 0 nonce))
       have hbw6 := below_setRow (g := g9) hB5 (by omega) (ints .u8 (block key 0 nonce)).toArray
       generalize hW6 : w5.setRow g9 (ints .u8 (block key 0 nonce)).toArray = w6 at *
       have hB36 : Below w.heap.size w w6 := below_then (below_then (below_then (below_then hB1 hB1.size hB2) (by have := hB1.size; have := hB2.size; omega) hB3) (by have := hB1.size; have := hB2.size; have := hB3.size; omega) hB4) (by have := hB1.size; have := hB2.size; have := hB3.size; have := hB4.size; omega) hbw6)
    | (go_at_call 40; refine (padded_calls w6.heap.size v7 (padTo [] ad) b A' c' _ w7 rfl hA' ((hr'.below hB36).below hB7) ho7 (by have := padTo_length [] ad; have := gap_lt ad.length; simp only [List.length_nil] at *; omega) (by omega) hB7.size).mono ?_; rintro e w8 ⟨v8, rfl, ho8, hB8⟩)
    | (go_at_call 40; refine (padded_calls w6.heap.size (.slice none 0 0) [] ad A c _ w6 rfl hA (hr.below hB36) (Own.nil _ _ _ _) (by simp) (by omega) (Nat.le_refl _)).mono ?_; rintro e w7 ⟨v7, rfl, ho7, hB7⟩)
    | fail)
  obtain ⟨B1, hB1e⟩ : ∃ B1, B1 = w6.heap.size := ⟨_, rfl⟩
  have z1 := hB1.size
  have z2 := hB2.size
  have z3 := hB3.size
  have z4 := hB4.size
  have z5 := hbw6.size
  have zs : w5.heap.size = w6.heap.size := by rw [← hW6]; simp [World.setRow]
  have h8B : g8 < B1 := by omega
  have h9B : g9 < B1 := by omega
  have hwB : w.heap.size ≤ B1 := by omega
  rw [← hB1e] at ho7 hB7 ho8 hB8
  have hT8 : TagS w g8 g9 B1 (block key 0 nonce) w8 := by
    have hB68 := hB7.trans hB8
    have hb8w : Blk w6 g8 57 (ints .u8 (List.replicate 16 0)) := (hb8.belowAll hB4).belowAll hbw6
    exact TagS.below ⟨hb9', hB36, by omega, _, hb8w, by simp [ints]⟩ hB68 h8B h9B hwB
  have H8 := hid h8B
  have H9 := hid h9B
  have HW := hid hwB
  have H89 : Hd (g9 ≠ g8) := ⟨by omega⟩
  have hgl8 : w.heap.size ≤ g8 := by omega
  have HB1e := hid hB1e
  clear z1 z2 z3 z4 z5 zs hW6 hB1e
  have hp1 := padTo_length [] ad
  have hp2 := padTo_length (padTo [] ad) b
  have hg1 := gap_lt ad.length
  have hg2 := gap_lt b.length
  simp only [List.length_nil] at hp1
  have HPL : Hd ((padTo (padTo [] ad) b).length ≤ 1000000) := ⟨by omega⟩
  have HPL2 : Hd ((padTo (padTo [] ad) b ++ lenTo ad.length 8).length ≤ 1000000) := ⟨by rw [List.length_append, lenTo_length]; omega⟩
  have HTL : Hd ((tagText ad b).length ≤ 1000000) := ⟨by rw [tagText, List.length_append, List.length_append, lenTo_length, lenTo_length]; omega⟩
  clear hp1 hp2 hg1 hg2
  refine wp_region_factsU (ix := [[0], [1], [2], [3], [4], [5], [6], [7], [8], []]) (S := TagS w g8 g9 B1 (block key 0 nonce))
    (R := fun i w1 w2 => match i with
      | 5 | 7 => Below B1 w1 w2
      | 8 => Below w1.heap.size w1 w2
      | 9 => ∃ cs, w2 = w1.setRow g8 cs
      | _ => w2 = w1)
    (U := fun i w1 => match i with
      | 5 => Own w1 B1 5 .u8 v8 (padTo (padTo [] ad) b)
      | _ => True)
    (kill := fun j => match j with
      | 5 => some 7
      | _ => none)
    (p := fun j vs w' => match j with
      | 0 => vs 0 = .slice (some ⟨g9, 0, none⟩) 32 64
      | 1 => vs 1 = .pointer (some ⟨g9, 0, none⟩)
      | 2 => vs 2 = .agg (ints .u8 ((block key 0 nonce).take 32)).toArray
      | 3 => vs 3 = v8
      | 4 => vs 4 = .slice A ad.length c
      | 5 => Own w' B1 5 .u8 (vs 5) (padTo (padTo [] ad) b ++ lenTo ad.length 8)
      | 6 => vs 6 = .slice A' b.length c'
      | 7 => Own w' B1 5 .u8 (vs 7) (tagText ad b)
      | 8 => vs 8 = .agg (ints .u8 (tagOf key nonce ad b)).toArray
      | 9 => Blk w' g8 57 (ints .u8 (tagOf key nonce ad b))
      | _ => True)
    (ks := []) (hm := by kernel_rfl) (hc := by kernel_rfl) ?_ ?_ ?_ ?_ ?_ ?_
  · exact ⟨hT8.blk.drew, below_drewN hT8.bel 1, hT8.size, hT8.out⟩
  · intro i j vs w1 w2 hij hw hk hR h
    have keep : ∀ (v : Value) (xs : List Int), i ≠ 5 → i ≠ 7 → Own w1 B1 5 .u8 v xs → Own w2 B1 5 .u8 v xs := fun v xs h5 h7 ho => by
      match i with
      | 5 => exact absurd rfl h5
      | 7 => exact absurd rfl h7
      | 8 => exact ho.below hR
      | 9 => obtain ⟨cs, rfl⟩ := hR; exact ho.setRowOther (ho.ne_lt H8.out) cs
      | 0 | 1 | 2 | 3 | 4 | 6 | n + 10 => cases (hR : w2 = w1); exact ho
    match j with
    | 0 | 1 | 2 | 3 | 4 | 6 | 8 => exact h
    | 5 =>
      exact keep _ _ hij (fun he => hk (by subst he; rfl)) h
    | 7 =>
      refine keep _ _ (fun he => ?_) hij h
      subst he
      exact absurd (Eq.trans (by kernel_rfl : true = _) hw) (by decide)
    | 9 =>
      have h' : Blk w1 g8 57 (ints .u8 (tagOf key nonce ad b)) := h
      match i with
      | 5 => exact h'.below hR H8.out
      | 7 => exact h'.below hR H8.out
      | 8 => exact h'.belowAll hR
      | 9 => exact absurd rfl hij
      | 0 | 1 | 2 | 3 | 4 | 6 | n + 10 => cases (hR : w2 = w1); exact h'
    | n + 10 => trivial
  · intro j
    match j with
    | 5 => exact ho8.drew
    | 0 | 1 | 2 | 3 | 4 | n + 6 => trivial
  · intro i j w1 w2 hij hw hR h
    match j with
    | 0 | 1 | 2 | 3 | 4 | n + 6 => trivial
    | 5 =>
      have h' : Own w1 B1 5 .u8 v8 (padTo (padTo [] ad) b) := h
      match i with
      | 5 => exact absurd rfl hij
      | 7 => exact absurd (Eq.trans (by kernel_rfl : true = _) hw) (by decide)
      | 8 => exact h'.below hR
      | 9 => obtain ⟨cs, rfl⟩ := hR; exact h'.setRowOther (h'.ne_lt H8.out) cs
      | 0 | 1 | 2 | 3 | 4 | 6 | n + 10 => cases (hR : w2 = w1); exact h'
  · refine ⟨?_, ?_, ?_, ?_, ?_, ?_, ?_, ?_, ?_, ?_, trivial⟩
    · (intro vs w2 hS hU hd; simp [Region.binds, Fact.at] at hd; simp only [fill, List.take_succ_cons, List.take_zero, Act.put, List.setIfInBounds_toArray, List.set_cons_zero, List.set_cons_succ, Nat.reduceAdd])
      try simp only [hd]
      go_wp2_with fail
      exact ⟨rfl, rfl, hS, rfl⟩
    · (intro vs w2 hS hU hd; simp [Region.binds, Fact.at] at hd; simp only [fill, List.take_succ_cons, List.take_zero, Act.put, List.setIfInBounds_toArray, List.set_cons_zero, List.set_cons_succ, Nat.reduceAdd])
      try simp only [hd]
      go_wp2_with (first | (refine arr_ptr rfl 23 _ rfl ⟨g9, 0, none⟩ 32 64 32 5 rfl arr23 (by omega) ?_) | fail)
      exact ⟨rfl, rfl, hS, rfl⟩
    · (intro vs w2 hS hU hd; simp [Region.binds, Fact.at] at hd; simp only [fill, List.take_succ_cons, List.take_zero, Act.put, List.setIfInBounds_toArray, List.set_cons_zero, List.set_cons_succ, Nat.reduceAdd])
      simp only [hd]
      have hb2 := hS.blk
      go_wp2_with (first | (refine load_in rfl 23 _ rfl g9 0 rfl (ints .u8 ((block key 0 nonce).take 32)) (fun j v hv => by rw [hb2.cell, Nat.zero_add]; exact take_get hv) 32 5 arr23 (by simp [ints, block_length]) info23 ?_) | fail)
      exact ⟨rfl, rfl, hS, rfl⟩
    · (intro vs w2 hS hU hd; simp [Region.binds, Fact.at] at hd; simp only [fill, List.take_succ_cons, List.take_zero, Act.put, List.setIfInBounds_toArray, List.set_cons_zero, List.set_cons_succ, Nat.reduceAdd])
      try simp only [hd]
      go_wp2_with fail
      exact ⟨rfl, rfl, hS, rfl⟩
    · (intro vs w2 hS hU hd; simp [Region.binds, Fact.at] at hd; simp only [fill, List.take_succ_cons, List.take_zero, Act.put, List.setIfInBounds_toArray, List.set_cons_zero, List.set_cons_succ, Nat.reduceAdd])
      try simp only [hd]
      go_wp2_with fail
      exact ⟨rfl, rfl, hS, rfl⟩
    · (intro vs w2 hS hU hd; simp [Region.binds, Fact.at] at hd; simp only [fill, List.take_succ_cons, List.take_zero, Act.put, List.setIfInBounds_toArray, List.set_cons_zero, List.set_cons_succ, Nat.reduceAdd])
      obtain ⟨h3, h4⟩ := hd
      have hU' : Own w2 B1 5 .u8 v8 (padTo (padTo [] ad) b) := hU
      simp only [h3, h4]
      go_wp2_with (first | (go_at_call 42; refine (length_calls B1 v8 (padTo (padTo [] ad) b) A c ad.length w2 hU' HPL.out (by omega) hS.size).mono ?_; rintro e w3 ⟨v9, rfl, ho9, hB9⟩) | fail)
      exact ⟨rfl, ho9, hS.below hB9 H8.out H9.out HW.out, hB9⟩
    · (intro vs w2 hS hU hd; simp [Region.binds, Fact.at] at hd; simp only [fill, List.take_succ_cons, List.take_zero, Act.put, List.setIfInBounds_toArray, List.set_cons_zero, List.set_cons_succ, Nat.reduceAdd])
      try simp only [hd]
      go_wp2_with fail
      exact ⟨rfl, rfl, hS, rfl⟩
    · (intro vs w2 hS hU hd; simp [Region.binds, Fact.at] at hd; simp only [fill, List.take_succ_cons, List.take_zero, Act.put, List.setIfInBounds_toArray, List.set_cons_zero, List.set_cons_succ, Nat.reduceAdd])
      obtain ⟨h5, h6, _⟩ := hd
      simp only [h6]
      go_wp2_with (first | (go_at_call 42; refine (length_calls B1 (vs 5) (padTo (padTo [] ad) b ++ lenTo ad.length 8) A' c' b.length w2 h5 HPL2.out (by omega) hS.size).mono ?_; rintro e w3 ⟨v9, rfl, ho9, hB9⟩) | fail)
      exact ⟨rfl, ho9, hS.below hB9 H8.out H9.out HW.out, hB9⟩
    · (intro vs w2 hS hU hd; simp [Region.binds, Fact.at] at hd; simp only [fill, List.take_succ_cons, List.take_zero, Act.put, List.setIfInBounds_toArray, List.set_cons_zero, List.set_cons_succ, Nat.reduceAdd])
      obtain ⟨h2, h7⟩ := hd
      obtain ⟨T, hT⟩ : ∃ T, Hd (T = tagText ad b) := ⟨_, ⟨rfl⟩⟩
      have hTl : T.length ≤ 1000000 := by rw [hT.out]; exact HTL.out
      rw [← hT.out] at h7
      obtain ⟨A7, c7, h7v, hlc7, hA7, hrd7⟩ := h7.parts
      simp only [h2, h7v]
      go_wp2_with (first | (go_at_call 41; refine (sum_calls ((block key 0 nonce).take 32) T A7 T.length c7 w2 (by simp [block_length]) rfl hlc7 hrd7 hTl).mono ?_; rintro e w3 ⟨rfl, hB9⟩) | fail)
      exact ⟨rfl, by rw [hT.out]; rfl, hS.below ⟨hB9.os, hB9.tape, hB9.output, hB9.size, fun k hk => hB9.block k (Nat.lt_of_lt_of_le hk hS.size)⟩ H8.out H9.out HW.out, hB9⟩
    · (intro vs w2 hS hU hd; simp [Region.binds, Fact.at] at hd; simp only [fill, List.take_succ_cons, List.take_zero, Act.put, List.setIfInBounds_toArray, List.set_cons_zero, List.set_cons_succ, Nat.reduceAdd])
      obtain ⟨old, hbo, hol⟩ := hS.out
      simp only [hd.1]
      go_wp2_with (first | (refine store_blk rfl 57 _ _ rfl g8 (ints .u8 (tagOf key nonce ad b)) rfl rfl 57 old hbo 16 infoT16 (by simp [ints, tagOf, polySum_length]) hol (ints_one _ _) ?_) | fail)
      have hne : g9 ≠ g8 := H89.out
      exact ⟨rfl, hbo.setRow _, ⟨hS.blk.setRowOther hne _, below_setRow hS.bel hgl8 _, by simpa [World.setRow] using hS.size, _, hbo.setRow _, by simp [ints, tagOf, polySum_length]⟩, ⟨_, rfl⟩⟩
  · intro vs wq hf hS
    have h9 : Blk wq g8 57 (ints .u8 (tagOf key nonce ad b)) := hf 9 (by simp) rfl
    simp only [fill, Act.put, List.setIfInBounds_toArray, List.set_cons_zero, List.set_cons_succ, Nat.reduceAdd]
    clear hf
    go_wp2_with fail
    refine bodyPost_ret (results_blk rfl _ _ g8 57 _ 16 5 rfl h9 undT16 (by simp [ints, tagOf, polySum_length]) infoT16) rfl ?_
    exact ⟨rfl, hS.bel⟩
end Go.Proofs.YtenjpmegnjdobaaDoor
/- aead.Seal. -/
namespace Go.Proofs.YtenjpmegnjdobaaDoor
open Go.RowKit Go.Cour
def sealText (key nonce ad b : List Int) : List Int := xorStream key 1 nonce b ++ tagOf key nonce ad (xorStream key 1 nonce b)
theorem tagOf_length (key nonce ad b : List Int) : (tagOf key nonce ad b).length = 16 := polySum_length _ _
set_option maxHeartbeats 400000 in
set_option maxRecDepth 100000 in
theorem seal_calls (key nonce ad b : List Int) (A A' : Option Addr) (c c' n n' : Nat) (w : World) (hk : key.length = 32) (hnl : nonce.length = 12) (rk : bytesOk key) (rn : bytesOk nonce)
    (hn : n = ad.length) (hA : A = none → c = 0) (hr : Rd w A .u8 ad) (hn' : n' = b.length) (hr' : Rd w A' .u8 b) (hla : ad.length ≤ 100000) (hlb : b.length ≤ 100000) :
    Calls Tryd.prog 24 #[.agg (ints .u8 key).toArray, .agg (ints .u8 nonce).toArray, .slice A n c, .slice A' n' c'] w fun e w' => ∃ v, e = .returned v ∧ Own w' w.heap.size 5 .u8 v (sealText key nonce ad b) ∧ Below w.heap.size w w' := by
  subst hn hn'
  have hxl := xorStream_length key 1 nonce b
  obtain ⟨X, hX⟩ : ∃ X, X = xorStream key 1 nonce b := ⟨_, rfl⟩
  rw [← hX] at hxl
  have HX := hid hX
  have HXL := hid hxl
  clear hX hxl
  go_enter Tryd.func24, Tryd.ntmps24
  go_wp2_with (first
    | (refine box_blk rfl 23 _ rfl _ rfl (ints .u8 key) rfl ?_; intro g4 w1 hg4 hb4 hB1 hs1)
    | (refine box_blk rfl 47 _ rfl _ rfl (ints .u8 nonce) rfl ?_; intro g5 w2 hg5 hb5 hB2 hs2
       have hb4' := hb4.belowAll hB2
       have hB12 : Below w.heap.size w w2 := below_then hB1 hB1.size hB2)
    | (refine load_blk rfl 23 _ rfl g4 rfl 23 _ hb4c 32 5 arr23 (by simp [ints, hk]) info23 ?_)
    | (refine load_blk rfl 47 _ rfl g5 rfl 47 _ hb5c 12 5 arr24 (by simp [ints, hnl]) info24 ?_)
    | (refine load_blk rfl 23 _ rfl g4 rfl 23 _ hb4' 32 5 arr23 (by simp [ints, hk]) info23 ?_)
    | (refine load_blk rfl 47 _ rfl g5 rfl 47 _ hb5 12 5 arr24 (by simp [ints, hnl]) info24 ?_)
    | (go_at_call 32; refine (xor_calls key nonce b 1 A' c' w2 hk hnl rk rn (by omega) (hr'.below hB12) (by omega)).mono ?_
       rintro e w3 ⟨g, rfl, hgw, hbx, hB3⟩
       rw [← HX.out] at hbx
       have hb4c := hb4'.belowAll hB3
       have hb5c := hb5.belowAll hB3
       have hB13 : Below w.heap.size w w3 := below_then hB12 hB12.size hB3)
    | (go_at_call 33; refine (tag_calls key nonce ad X A (some ⟨g, 0, none⟩) c b.length ad.length b.length w3 hk hnl rk rn rfl hA (hr.below hB13) HXL.out.symm (by intro h; cases h) (Rd.ofBlk hbx) (by omega) (by rw [HXL.out]; omega)).mono ?_
       rintro e w4 ⟨rfl, hB4⟩)
    | (refine alloc_blk rfl 57 rfl _ rfl (ints .u8 (List.replicate 16 0)) zeroT16 ?_; intro g8 w5 hg8 hb8 hB5 hs5)
    | (refine store_blk rfl 57 _ _ rfl g8 (ints .u8 (tagOf key nonce ad X)) rfl rfl 57 _ hb8 16 infoT16 (by simp [ints, tagOf_length]) (by simp [ints]) (ints_one _ _) ?_
       have hb8' := hb8.setRow (ints .u8 (tagOf key nonce ad X))
       have hbw6 := below_setRow (g := g8) hB5 (by omega) (ints .u8 (tagOf key nonce ad X)).toArray
       generalize hW6 : w5.setRow g8 (ints .u8 (tagOf key nonce ad X)).toArray = w6 at *
       have hB46 : Below w3.heap.size w3 w6 := below_then hB4 hB4.size hbw6
       have hown : Own w6 w.heap.size 5 .u8 (.slice (some ⟨g, 0, none⟩) X.length X.length) X := Own.ofBlk (hbx.belowAll hB46) (by have := hB12.size; omega) (by rw [HXL.out]; unfold maxLen; omega)
       rw [HXL.out] at hown)
    | (at_builtin; refine append_list rfl (.tmp 20) (.tmp 21) 24 rfl w.heap.size 5 .u8 1 undBytes infoU8 _ X rfl hown (some ⟨g8, 0, none⟩) 16 16 (tagOf key nonce ad X) rfl (tagOf_length _ _ _ _).symm (by intro h; cases h) (Rd.ofBlk hb8') (by rw [HXL.out, tagOf_length]; omega) (by rw [HXL.out, tagOf_length]; omega) (by have := hB13.size; have := hB46.size; omega) ?_; intro v1 w7 ho7 hg7)
    | fail)
  go_ret
  refine ⟨v1, by simp, ?_, ?_⟩
  · rw [sealText, ← HX.out]; exact ho7
  · exact hown.grown_below (below_then hB13 hB13.size hB46) hg7 (by have := hB13.size; have := hB46.size; omega) (Nat.le_refl _)
end Go.Proofs.YtenjpmegnjdobaaDoor
/- stream.Count. -/
namespace Go.Proofs.YtenjpmegnjdobaaDoor
open Go.RowKit Go.Cour
attribute [local go_sem] max2_int min2_int
/-- How many chunks: of whole ones, one more if they are too few, one at least. -/
def countD (p d e : Int) : Int := max (if e < p then d + 1 else d) 1
def countI (p q : Int) : Int := countD p (max p 0 / max q 1) (max p 0 / max q 1 * max q 1)
set_option maxHeartbeats 400000 in
theorem count_calls (p q : Int) (w : World) (hp : -1000000 ≤ p ∧ p ≤ 1000000) (hq : -1000000 ≤ q ∧ q ≤ 1000000) :
    Calls Tryd.prog 9 #[.int .i64 p, .int .i64 q] w fun e w' => e = .returned (.int .i64 (countI p q)) ∧ w' = w := by
  obtain ⟨c, hc⟩ : ∃ c : Int, c = max q 1 := ⟨_, rfl⟩
  obtain ⟨s, hs⟩ : ∃ s : Int, s = max p 0 := ⟨_, rfl⟩
  obtain ⟨d, hd⟩ : ∃ d : Int, d = s / c := ⟨_, rfl⟩
  obtain ⟨e, he⟩ : ∃ e : Int, e = d * c := ⟨_, rfl⟩
  have c1 : 1 ≤ c := by omega
  have c2 : c ≤ 1000000 := by omega
  have s1 : 0 ≤ s := by omega
  have s2 : s ≤ 1000000 := by omega
  have d0 : 0 ≤ d := hd ▸ Int.ediv_nonneg s1 (by omega)
  have d1 : d ≤ s := hd ▸ Int.ediv_le_self _ s1
  have e0 : 0 ≤ e := he ▸ Int.mul_nonneg d0 (by omega)
  have e1 : e ≤ s := he ▸ hd ▸ Int.ediv_mul_le _ (by omega)
  have hcount : countI p q = countD p d e := by rw [countI, ← hs, ← hc, ← hd, ← he]
  have m1 : (if q < 1 then (1 : Int) else q) = c := by split <;> omega
  have m2 : (if p < 0 then (0 : Int) else p) = s := by split <;> omega
  have w1 : wrap64 (s.tdiv c) = d := by rw [Int.tdiv_eq_ediv_of_nonneg s1, ← hd]; exact IntWalk.wrap64_in _ (by omega)
  have w2 : wrap64 (d * c) = e := by rw [← he]; exact IntWalk.wrap64_in _ (by omega)
  have w3 : wrap64 (d + 1) = d + 1 := by exact IntWalk.wrap64_in _ (by omega)
  rw [hcount]
  have w6 : d = 0 → e = 0 := fun h => by rw [he, h, Int.zero_mul]
  have w0 : p < 0 → s = 0 ∧ d = 0 ∧ e = 0 := fun h => by
    have : s = 0 := by omega
    subst this
    have : d = 0 := by rw [hd, Int.zero_ediv]
    subst this
    exact ⟨rfl, rfl, by rw [he, Int.zero_mul]⟩
  have w4 : 0 ≤ p → p / c = d := fun h => by rw [hd]; congr 1; omega
  clear hcount hd he hs hc
  unfold countD
  by_cases h0 : 0 ≤ p
  · have w5 := w4 h0
    clear w0 w4
    by_cases hlt : e < p
    · by_cases h1 : 1 ≤ d
      · have m3 : max (if e < p then d + 1 else d) 1 = d + 1 := by rw [if_pos hlt]; omega
        rw [m3]
        go_enter Tryd.func9, Tryd.ntmps9
        go_wp2_with fail
        go_ret
        exact ⟨rfl, rfl⟩
      · obtain rfl : d = 0 := by omega
        obtain rfl := w6 rfl
        have m3 : max (if 0 < p then (0 : Int) + 1 else 0) 1 = 1 := by rw [if_pos hlt]; omega
        rw [m3]
        go_enter Tryd.func9, Tryd.ntmps9
        go_wp2_with fail
        go_ret
        exact ⟨rfl, rfl⟩
    · by_cases h1 : 1 ≤ d
      · have m3 : max (if e < p then d + 1 else d) 1 = d := by rw [if_neg hlt]; omega
        rw [m3]
        go_enter Tryd.func9, Tryd.ntmps9
        go_wp2_with fail
        go_ret
        exact ⟨rfl, rfl⟩
      · obtain rfl : d = 0 := by omega
        obtain rfl := w6 rfl
        have m3 : max (if 0 < p then (0 : Int) + 1 else 0) 1 = 1 := by rw [if_neg hlt]; omega
        rw [m3]
        go_enter Tryd.func9, Tryd.ntmps9
        go_wp2_with fail
        go_ret
        exact ⟨rfl, rfl⟩
  · obtain ⟨rfl, rfl, rfl⟩ := w0 (by omega)
    clear w0 w4 w6
    have m3 : max (if (0 : Int) < p then (0 : Int) + 1 else 0) 1 = 1 := by rw [if_neg (by omega)]; omega
    rw [m3]
    go_enter Tryd.func9, Tryd.ntmps9
    go_wp2_with fail
    go_ret
    exact ⟨rfl, rfl⟩
end Go.Proofs.YtenjpmegnjdobaaDoor
/- stream.nonce. -/
namespace Go.Proofs.YtenjpmegnjdobaaDoor
open Go.RowKit Go.Cour
/-- A chunk's nonce. -/
def nonceOf (i : Int) (last : Bool) : List Int := [0, 0, 0, 0, 0, 0, 0, i / 16777216, i / 65536 % 256, i / 256 % 256, i % 256, if last then 1 else 0]
theorem nonceOf_length (i : Int) (last : Bool) : (nonceOf i last).length = 12 := rfl
theorem infoN12 : (Tryd.prog.info? 47).map (·.size) = some 12 := by kernel_rfl
theorem undN12 : Tryd.prog.underlying 47 = some (.array 12 5) := by kernel_rfl
theorem zeroN12 : ((Tryd.prog.info? 47).bind (·.zero)).map (·.cells) = some (ints .u8 (List.replicate 12 0)).toArray := by kernel_rfl
set_option maxHeartbeats 400000 in
set_option maxRecDepth 100000 in
theorem nonce_calls (i : Int) (last : Bool) (w : World) (hi : 0 ≤ i ∧ i < 4294967296) :
    Calls Tryd.prog 25 #[.int .u32 i, .bool last] w fun e w' => e = .returned (.agg (ints .u8 (nonceOf i last)).toArray) ∧ Below w.heap.size w w' := by
  cases last
  · go_enter Tryd.func25, Tryd.ntmps25
    go_wp2_with (first
    | (refine store_blk rfl 47 _ _ rfl g1 (ints .u8 [0, 0, 0, 0, 0, 0, 0, i / 16777216, i / 65536 % 256, i / 256 % 256, i % 256, 0]) rfl rfl 47 _ hb1'' 12 infoN12 (by simp [ints]) (by simp [ints]) (ints_one _ _) ?_)
    | (refine load_blk rfl 47 _ rfl g2 rfl 47 _ hb4 12 5 undN12 (by simp [ints]) infoN12 ?_)
    | (refine store_blk rfl 47 _ _ rfl g2 (ints .u8 [0, 0, 0, 0, 0, 0, 0, i / 16777216, i / 65536 % 256, i / 256 % 256, i % 256, 0]) rfl rfl 47 _ hb2 12 infoN12 (by simp [ints]) (by simp [ints]) (ints_one _ _) ?_
       have hb3 := hb2.setRow (ints .u8 [0, 0, 0, 0, 0, 0, 0, i / 16777216, i / 65536 % 256, i / 256 % 256, i % 256, 0])
       have hb1' := (hb1.belowAll hB2).setRowOther (g' := g2) (by have := hb1.lt; omega) (ints .u8 [0, 0, 0, 0, 0, 0, 0, i / 16777216, i / 65536 % 256, i / 256 % 256, i % 256, 0]).toArray
       have hB3 := below_setRow (below_then hB1 hB1.size hB2) (g := g2) (by have := hB1.size; omega) (ints .u8 [0, 0, 0, 0, 0, 0, 0, i / 16777216, i / 65536 % 256, i / 256 % 256, i % 256, 0]).toArray
       generalize World.setRow w2 _ _ = w3 at *
       have hb4 := hb3
       have hb1'' := hb1'
       have hB4 := hB3)
    | (have hx := hb1; refine alloc_blk rfl 47 rfl _ rfl (ints .u8 (List.replicate 12 0)) zeroN12 ?_; clear hx; intro g2 w2 hg2 hb2 hB2 hs2)
    | (refine alloc_blk rfl 47 rfl _ rfl (ints .u8 (List.replicate 12 0)) zeroN12 ?_; intro g1 w1 hg1 hb1 hB1 hs1)
    | fail)
    refine bodyPost_ret (results_blk rfl _ _ g1 47 _ 12 5 rfl (hb1''.setRow (ints .u8 [0, 0, 0, 0, 0, 0, 0, i / 16777216, i / 65536 % 256, i / 256 % 256, i % 256, 0])) undN12 (by simp [ints]) infoN12) rfl ?_
    exact ⟨rfl, below_setRow hB4 (by omega) _⟩
  · go_enter Tryd.func25, Tryd.ntmps25
    go_wp2_with (first
    | (refine store_blk rfl 47 _ _ rfl g1 (ints .u8 [0, 0, 0, 0, 0, 0, 0, i / 16777216, i / 65536 % 256, i / 256 % 256, i % 256, 1]) rfl rfl 47 _ hb1'' 12 infoN12 (by simp [ints]) (by simp [ints]) (ints_one _ _) ?_)
    | (refine load_blk rfl 47 _ rfl g2 rfl 47 _ hb4 12 5 undN12 (by simp [ints]) infoN12 ?_)
    | (refine store_blk rfl 47 _ _ rfl g2 (ints .u8 [0, 0, 0, 0, 0, 0, 0, i / 16777216, i / 65536 % 256, i / 256 % 256, i % 256, 0]) rfl rfl 47 _ hb2 12 infoN12 (by simp [ints]) (by simp [ints]) (ints_one _ _) ?_
       have hb3 := hb2.setRow (ints .u8 [0, 0, 0, 0, 0, 0, 0, i / 16777216, i / 65536 % 256, i / 256 % 256, i % 256, 0])
       have hb1' := (hb1.belowAll hB2).setRowOther (g' := g2) (by have := hb1.lt; omega) (ints .u8 [0, 0, 0, 0, 0, 0, 0, i / 16777216, i / 65536 % 256, i / 256 % 256, i % 256, 0]).toArray
       have hB3 := below_setRow (below_then hB1 hB1.size hB2) (g := g2) (by have := hB1.size; omega) (ints .u8 [0, 0, 0, 0, 0, 0, 0, i / 16777216, i / 65536 % 256, i / 256 % 256, i % 256, 0]).toArray
       generalize World.setRow w2 _ _ = w3 at *
       have fx := hb3.frozen 11
       have cx := hb3.cellI 11 (by simp)
       have hb4 : Blk (w3.setCell ⟨g2, 11, none⟩ (.int .u8 1)) g2 47 (ints .u8 [0, 0, 0, 0, 0, 0, 0, i / 16777216, i / 65536 % 256, i / 256 % 256, i % 256, 1]) := hb3.setI 11 1
       have hb1'' : Blk (w3.setCell ⟨g2, 11, none⟩ (.int .u8 1)) g1 47 (ints .u8 (List.replicate 12 0)) := hb1'.setOther (by have := hb1.lt; simp; omega) _
       have hB4 : Below w.heap.size w (w3.setCell ⟨g2, 11, none⟩ (.int .u8 1)) := hB3.setCell (by have := hB1.size; simp; omega) _)
    | (have hx := hb1; refine alloc_blk rfl 47 rfl _ rfl (ints .u8 (List.replicate 12 0)) zeroN12 ?_; clear hx; intro g2 w2 hg2 hb2 hB2 hs2)
    | (refine alloc_blk rfl 47 rfl _ rfl (ints .u8 (List.replicate 12 0)) zeroN12 ?_; intro g1 w1 hg1 hb1 hB1 hs1)
    | fail)
    refine bodyPost_ret (results_blk rfl _ _ g1 47 _ 12 5 rfl (hb1''.setRow (ints .u8 [0, 0, 0, 0, 0, 0, 0, i / 16777216, i / 65536 % 256, i / 256 % 256, i % 256, 1])) undN12 (by simp [ints]) infoN12) rfl ?_
    exact ⟨rfl, below_setRow hB4 (by omega) _⟩
end Go.Proofs.YtenjpmegnjdobaaDoor
/- Clone: a copy. -/
namespace Go.Proofs.YtenjpmegnjdobaaDoor
open Go.RowKit Go.Cour
set_option maxHeartbeats 2000000 in
set_option maxRecDepth 100000 in
theorem clone_calls (A : Option Addr) (m c : Nat) (xs : List Int) (w : World) (hm : m = xs.length) (hA : A = none → c = 0) (hr : Rd w A .u8 xs) (hl : xs.length ≤ 1000000000) :
    Calls Tryd.prog 22 #[.slice A m c] w fun e w' => ∃ v, e = .returned v ∧ Own w' w.heap.size 5 .u8 v xs ∧ Below w.heap.size w w' := by
  subst hm
  cases A with
  | none =>
    obtain rfl := hA rfl
    have hx : xs = [] := by
      rcases hr with hr | ⟨g, o, he, _⟩
      · exact hr
      · cases he
    subst hx
    have he := fun w => Lib.run_eql_slice_nil (P := Tryd.prog) w 24 5 none 0 0 0 0 undBytes
    go_enter Tryd.func22, Tryd.ntmps22
    go_wp2
    go_ret
    exact ⟨_, rfl, Own.nil _ _ _ _, Below.refl _ _⟩
  | some ad =>
    have HR := hid hr
    clear hr hA
    have he := fun w => Lib.run_eql_slice_nil (P := Tryd.prog) w 24 5 (some ad) xs.length c 0 0 undBytes
    go_enter Tryd.func22, Tryd.ntmps22
    have ho : Own (w.alloc (.cells (ints .u8 []).toArray 5)) w.heap.size 5 .u8 (.slice (some ⟨w.heap.size, 0, none⟩) ([] : List Int).length ([] : List Int).length) [] := Own.ofBlk (Blk.new w 5 (ints .u8 [])) (Nat.le_refl _) (by simp)
    go_wp2_with (at_builtin; refine append_list rfl (.tmp 5) (.tmp 6) 24 rfl w.heap.size 5 .u8 1 undBytes infoU8 _ [] rfl ho (some ad) xs.length c xs rfl rfl (by simp) (HR.out.alloc _) (by simp; omega) (by simp; omega) (by simp) ?_; intro v' w1 ho' hg')
    go_ret
    exact ⟨_, rfl, ho', ho.grown_below ((Below.refl _ _).alloc (Nat.le_refl _) _) hg' (by simp) (Nat.le_refl _)⟩
end Go.Proofs.YtenjpmegnjdobaaDoor
/- stream.Piece. -/
namespace Go.Proofs.YtenjpmegnjdobaaDoor
open Go.RowKit Go.Cour
attribute [local go_sem] max2_int min2_int
/-- A piece of a file. -/
def pieceOf (xs : List Int) (q i : Int) : List Int := if i < 0 ∨ (xs.length : Int) / max q 1 < i then [] else (xs.drop (i * max q 1).toNat).take (max q 1).toNat
theorem rd_sliceC {w : World} {A : Option Addr} {k : IntKind} {xs : List Int} (h : Rd w A k xs) (f : Nat) : Rd w (A.map (·.add f)) k (xs.drop f) := by
  rcases h with h | ⟨g, o, rfl, h⟩
  · exact .inl (by rw [h]; simp)
  · refine .inr ⟨g, o + f, by rw [Option.map_some, add_lit], fun i hi => ?_⟩
    rw [rd_drop, Nat.add_assoc]
    exact h _ (by rw [List.length_drop] at hi; omega)
theorem min_k1 (n f k : Nat) (c : Int) (hc : 1 ≤ c) (hk : k = min c.toNat (n - f)) (hf : f ≤ n) : (if (n : Int) - (f : Int) < c then (n : Int) - (f : Int) else c) = (k : Int) := by
  by_cases h : (n : Int) - (f : Int) < c
  · rw [if_pos h]; omega
  · rw [if_neg h]; omega
theorem min_k2 (n f k : Nat) (c : Int) (hc : 1 ≤ c) (hk : k = min c.toNat (n - f)) (hf : f ≤ n) : (if c < (n : Int) - (f : Int) then c else (n : Int) - (f : Int)) = (k : Int) := by
  by_cases h : c < (n : Int) - (f : Int)
  · rw [if_pos h]; omega
  · rw [if_neg h]; omega
set_option maxHeartbeats 400000 in
set_option maxRecDepth 100000 in
theorem piece_calls (xs : List Int) (A : Option Addr) (n cap : Nat) (q i : Int) (w : World) (hn : n = xs.length) (hA : A = none → cap = 0) (hcap : n ≤ cap) (hr : Rd w A .u8 xs) (hl : xs.length ≤ 100000)
    (hq : -1000000 ≤ q ∧ q ≤ 1000000) (hi : -1000000 ≤ i ∧ i ≤ 1000000) :
    Calls Tryd.prog 12 #[.slice A n cap, .int .i64 q, .int .i64 i] w fun e w' => ∃ v, e = .returned v ∧ Own w' w.heap.size 5 .u8 v (pieceOf xs q i) ∧ Below w.heap.size w w' := by
  have HN := hid hn
  have HR := hid hr
  rw [← hn] at hl
  clear hn hr
  obtain ⟨c, hc⟩ : ∃ c : Int, c = max q 1 := ⟨_, rfl⟩
  have c1 : 1 ≤ c := by omega
  have c2 : c ≤ 1000000 := by omega
  have m1 : (if q < 1 then (1 : Int) else q) = c := by split <;> omega
  obtain ⟨d, hd⟩ : ∃ d : Int, Hd ((n : Int) / c = d) := ⟨_, ⟨rfl⟩⟩
  have hpc : pieceOf xs q i = if i < 0 ∨ d < i then [] else (xs.drop (i * c).toNat).take c.toNat := by rw [pieceOf, ← hc, ← HN.out, hd.out]
  rw [hpc]
  clear hpc hc
  by_cases h0 : i < 0
  · rw [if_pos (.inl h0)]
    go_enter Tryd.func12, Tryd.ntmps12
    go_wp2_with fail
    go_ret
    exact ⟨_, rfl, Own.nil _ _ _ _, Below.refl _ _⟩
  · have hd0 : 0 ≤ d := by rw [← hd.out]; exact Int.ediv_nonneg (by omega) (by omega)
    have hdn : d ≤ n := by rw [← hd.out]; exact Int.ediv_le_self _ (by omega)
    by_cases h1 : d < i
    · rw [if_pos (.inr h1)]
      have w1 := hd.out
      go_enter Tryd.func12, Tryd.ntmps12
      go_wp2_with fail
      go_ret
      exact ⟨_, rfl, Own.nil _ _ _ _, Below.refl _ _⟩
    · rw [if_neg (by omega)]
      obtain ⟨f, hf⟩ : ∃ f : Nat, Hd ((f : Int) = i * c) := ⟨(i * c).toNat, ⟨Int.toNat_of_nonneg (Int.mul_nonneg (by omega) (by omega))⟩⟩
      have hfn : f ≤ n := by
        have h3 : i * c ≤ d * c := Int.mul_le_mul_of_nonneg_right (by omega) (by omega)
        have h4 : d * c ≤ n := hd.out ▸ Int.ediv_mul_le _ (by omega)
        have h5 := hf.out
        generalize i * c = ic at *
        generalize d * c = dc at *
        omega
      obtain ⟨k, hk⟩ : ∃ k : Nat, Hd (k = min c.toNat (n - f)) := ⟨_, ⟨rfl⟩⟩
      have hkn : f + k ≤ n := by have := hk.out; omega
      have hp : Hd ((xs.drop (i * c).toNat).take c.toNat = (xs.drop f).take k) := ⟨by
        rw [← hf.out, Int.toNat_natCast, hk.out]
        rcases Nat.le_total c.toNat (n - f) with h | h
        · rw [Nat.min_eq_left h]
        · rw [Nat.min_eq_right h, List.take_of_length_le (by rw [List.length_drop, ← HN.out]; exact h), List.take_of_length_le (by rw [List.length_drop, ← HN.out]; exact Nat.le_refl _)]⟩
      rw [hp.out]
      have m2 := min_k1 n f k c c1 hk.out hfn
      have m3 := min_k2 n f k c c1 hk.out hfn
      have w2 : wrap64 (i * c) = (f : Int) := by rw [← hf.out]; exact IntWalk.wrap64_in _ (by omega)
      have w1 := hd.out
      have hlen : Hd (k = ((xs.drop f).take k).length) := ⟨by rw [List.length_take, List.length_drop, ← HN.out]; omega⟩
      by_cases hcf : cap = f
      · obtain rfl : k = 0 := by omega
        go_enter Tryd.func12, Tryd.ntmps12
        go_wp2_with (first
          | (go_at_call 22; refine (clone_calls _ _ _ ((xs.drop f).take 0) _ (by simp; omega) (fun _ => rfl) (Rd.nil _ _ _) (by simp)).mono ?_; rintro e w' ⟨v, rfl, ho, hb⟩)
          | fail)
        go_ret
        exact ⟨_, rfl, ho, hb⟩
      · go_enter Tryd.func12, Tryd.ntmps12
        go_wp2_with (first
          | (go_at_call 22; refine (clone_calls _ _ _ ((xs.drop f).take k) _ hlen.out (fun hn => by have hc0 := hA (Option.map_eq_none_iff.1 hn); omega) ((rd_sliceC HR.out f).take k) (by rw [← hlen.out]; omega)).mono ?_; rintro e w' ⟨v, rfl, ho, hb⟩)
          | fail)
        go_ret
        exact ⟨_, rfl, ho, hb⟩
end Go.Proofs.YtenjpmegnjdobaaDoor
/- stream.Seal. -/
namespace Go.Proofs.YtenjpmegnjdobaaDoor
open Go.RowKit Go.Cour
/-- A sealed chunk. -/
def ssealText (key : List Int) (i : Int) (last : Bool) (b : List Int) : List Int := sealText key (nonceOf i last) [] b
theorem nonceOf_ok (i : Int) (last : Bool) (hi : 0 ≤ i ∧ i < 4294967296) : bytesOk (nonceOf i last) := by
  intro j
  have h : j = 0 ∨ j = 1 ∨ j = 2 ∨ j = 3 ∨ j = 4 ∨ j = 5 ∨ j = 6 ∨ j = 7 ∨ j = 8 ∨ j = 9 ∨ j = 10 ∨ j = 11 ∨ 12 ≤ j := by omega
  rcases h with rfl | rfl | rfl | rfl | rfl | rfl | rfl | rfl | rfl | rfl | rfl | rfl | h
  case inr.inr.inr.inr.inr.inr.inr.inr.inr.inr.inr.inr =>
    have : rd (nonceOf i last) j = 0 := by unfold rd; rw [List.getD_eq_getElem?_getD, List.getElem?_eq_none (by rw [nonceOf_length]; exact h)]; rfl
    omega
  all_goals cases last <;> simp [rd, nonceOf] <;> omega
set_option maxHeartbeats 400000 in
set_option maxRecDepth 100000 in
theorem sseal_calls (key : List Int) (i : Int) (last : Bool) (b : List Int) (A : Option Addr) (n c : Nat) (w : World) (hk : key.length = 32) (rk : bytesOk key) (hi : 0 ≤ i ∧ i < 4294967296)
    (hn : n = b.length) (hr : Rd w A .u8 b) (hlb : b.length ≤ 100000) :
    Calls Tryd.prog 15 #[.agg (ints .u8 key).toArray, .int .u32 i, .bool last, .slice A n c] w fun e w' => ∃ v, e = .returned v ∧ Own w' w.heap.size 5 .u8 v (ssealText key i last b) ∧ Below w.heap.size w w' := by
  subst hn
  go_enter Tryd.func15, Tryd.ntmps15
  go_wp2_with (first
    | (refine box_blk rfl 23 _ rfl _ rfl (ints .u8 key) rfl ?_; intro g4 w1 hg4 hb4 hB1 hs1; clear hg4 hs1)
    | fail)
  refine wp_region_facts (ix := [[0], [1], [2], [3], [4], [5], [6]]) (S := fun w' => Blk w' g4 23 (ints .u8 key) ∧ Below w.heap.size w w')
    (R := fun w1 w2 => Below w1.heap.size w1 w2)
    (p := fun j vs w' => match j with
      | 0 => vs 0 = .agg (ints .u8 key).toArray
      | 1 => vs 1 = .int .u32 i
      | 2 => vs 2 = .bool last
      | 3 => vs 3 = .agg (ints .u8 (nonceOf i last)).toArray
      | 4 => vs 4 = .slice A b.length c
      | 5 => Own w' w.heap.size 5 .u8 (vs 5) (ssealText key i last b)
      | 6 => Own w' w.heap.size 5 .u8 (vs 6) (ssealText key i last b)
      | _ => True)
    (by kernel_rfl) (by kernel_rfl) ?_ ?_ ?_ ?_
  · exact ⟨hb4.drew, below_drewN hB1 1⟩
  · intro j vs w1 w2 hR h
    match j with
    | 0 | 1 | 2 | 3 | 4 => exact h
    | 5 => exact Own.below h hR
    | 6 => exact Own.below h hR
    | n + 7 => trivial
  · refine ⟨?_, ?_, ?_, ?_, ?_, ?_, ?_, trivial⟩
    · (intro vs w2 hS hd; simp [Region.binds, Fact.at] at hd; simp only [fill, List.take_succ_cons, List.take_zero, Act.put, List.setIfInBounds_toArray, List.set_cons_zero, List.set_cons_succ, Nat.reduceAdd])
      try simp only [hd]
      go_wp2_with (first
        | (refine load_blk rfl 23 _ rfl g4 rfl 23 _ hS.1 32 5 arr23 (by simp [ints, hk]) info23 ?_)
        | fail)
      exact ⟨rfl, rfl, hS, Below.refl _ _⟩
    · (intro vs w2 hS hd; simp [Region.binds, Fact.at] at hd; simp only [fill, List.take_succ_cons, List.take_zero, Act.put, List.setIfInBounds_toArray, List.set_cons_zero, List.set_cons_succ, Nat.reduceAdd])
      try simp only [hd]
      go_wp2_with fail
      exact ⟨rfl, rfl, hS, Below.refl _ _⟩
    · (intro vs w2 hS hd; simp [Region.binds, Fact.at] at hd; simp only [fill, List.take_succ_cons, List.take_zero, Act.put, List.setIfInBounds_toArray, List.set_cons_zero, List.set_cons_succ, Nat.reduceAdd])
      try simp only [hd]
      go_wp2_with fail
      exact ⟨rfl, rfl, hS, Below.refl _ _⟩
    · (intro vs w2 hS hd; simp [Region.binds, Fact.at] at hd; simp only [fill, List.take_succ_cons, List.take_zero, Act.put, List.setIfInBounds_toArray, List.set_cons_zero, List.set_cons_succ, Nat.reduceAdd])
      simp only [hd]
      go_wp2_with (first
        | (go_at_call 25; refine (nonce_calls i last w2 hi).mono ?_; rintro e w3 ⟨rfl, hB⟩)
        | fail)
      exact ⟨rfl, rfl, ⟨hS.1.belowAll hB, below_then hS.2 hS.2.size hB⟩, hB⟩
    · (intro vs w2 hS hd; simp [Region.binds, Fact.at] at hd; simp only [fill, List.take_succ_cons, List.take_zero, Act.put, List.setIfInBounds_toArray, List.set_cons_zero, List.set_cons_succ, Nat.reduceAdd])
      try simp only [hd]
      go_wp2_with fail
      exact ⟨rfl, rfl, hS, Below.refl _ _⟩
    · (intro vs w2 hS hd; simp [Region.binds, Fact.at] at hd; simp only [fill, List.take_succ_cons, List.take_zero, Act.put, List.setIfInBounds_toArray, List.set_cons_zero, List.set_cons_succ, Nat.reduceAdd])
      simp only [hd]
      go_wp2_with (first
        | (go_at_call 24; refine (seal_calls key (nonceOf i last) [] b none A 0 c 0 b.length w2 hk (nonceOf_length _ _) rk (nonceOf_ok i last hi) rfl (fun _ => rfl) (Rd.nil _ _ _) rfl (hr.below hS.2) (by simp) hlb).mono ?_; rintro e w3 ⟨v, rfl, ho, hB⟩)
        | fail)
      exact ⟨rfl, ho.lower hS.2.size, ⟨hS.1.belowAll hB, below_then hS.2 hS.2.size hB⟩, hB⟩
    · (intro vs w2 hS hd; simp [Region.binds, Fact.at] at hd; simp only [fill, List.take_succ_cons, List.take_zero, Act.put, List.setIfInBounds_toArray, List.set_cons_zero, List.set_cons_succ, Nat.reduceAdd])
      go_wp2_with fail
      exact ⟨rfl, hd.1, hS, Below.refl _ _⟩
  · intro vs wq hf hS
    have h6 : Own wq w.heap.size 5 .u8 (vs 6) (ssealText key i last b) := hf 6 (by simp)
    simp only [fill, Act.put, List.setIfInBounds_toArray, List.set_cons_zero, List.set_cons_succ, Nat.reduceAdd]
    clear hf
    go_wp2_with fail
    go_ret
    exact ⟨_, rfl, h6, hS.2⟩
end Go.Proofs.YtenjpmegnjdobaaDoor
/- Own rows of values, each of one cell; own rows of own rows of numbers. -/
namespace Go.Cour
open Go.RowKit
/-- The slice value v, of the values cs, is the call's own. -/
def OwnV (w : World) (base : Nat) (e : TypeId) (v : Value) (cs : List Value) : Prop := w.ownsRow base e 1 v cs.length cs
section
variable {w w1 : World} {base : Nat} {e e' : TypeId} {k : IntKind} {v v' : Value} {cs : List Value} {xs : List Int}
theorem OwnV.nil (w : World) (base : Nat) (e : TypeId) : OwnV w base e (.slice none 0 0) [] := ⟨by simp, .inl ⟨rfl, rfl⟩⟩
theorem OwnV.below (h : OwnV w base e v cs) (hb : Below w.heap.size w w1) : OwnV w1 base e v cs := by
  obtain ⟨h1, h2⟩ := h
  refine ⟨h1, ?_⟩
  rcases h2 with h2 | ⟨g, cap, cur, rfl, hg, hh, r⟩
  · exact .inl h2
  · exact .inr ⟨g, cap, cur, rfl, hg, (hb.block g (Array.getElem?_eq_some_iff.1 hh).1).trans hh, r⟩
theorem OwnV.drew (h : OwnV w base e v cs) : OwnV w.drew base e v cs := h
theorem OwnV.drewN (h : OwnV w base e v cs) (n : Nat) : OwnV (w.drewN n) base e v cs := h
theorem OwnV.lower {b : Nat} (h : OwnV w base e v cs) (hb : b ≤ base) : OwnV w b e v cs := by
  obtain ⟨h1, h2⟩ := h
  refine ⟨h1, ?_⟩
  rcases h2 with h2 | ⟨g, cap, cur, hv, hg, r⟩
  · exact .inl h2
  · exact .inr ⟨g, cap, cur, hv, Nat.le_trans hb hg, r⟩
theorem OwnV.base_le (h : OwnV w base e v cs) (j : Nat) (hj : v.ownBlock = some j) : base ≤ j := by
  rcases h.2 with ⟨rfl, _⟩ | ⟨g, cap, cur, rfl, hg, r⟩
  · simp [Value.ownBlock] at hj
  · have : g = j := by simpa [Value.ownBlock] using hj
    omega
theorem OwnV.grown_below {B : Nat} {w0 : World} (h : OwnV w base e v cs) (hb : Below B w0 w) (hg : w.grownBy w1 v.ownBlock) (h1 : B ≤ w.heap.size) (h2 : B ≤ base) : Below B w0 w1 :=
  hb.grown hg h1 (fun j hj => Nat.le_trans h2 (h.base_le j hj))
theorem OwnV.ne_own {base' : Nat} (h : OwnV w base e v cs) (h' : Own w base' e' k v' xs) (hne : e ≠ e') : v'.ownBlock = none ∨ v'.ownBlock ≠ v.ownBlock := by
  rcases h'.2 with ⟨rfl, _⟩ | ⟨g', cap', cur', rfl, _, hh', r'⟩
  · exact .inl rfl
  · refine .inr fun he => ?_
    rcases h.2 with ⟨rfl, _⟩ | ⟨g, cap, cur, rfl, _, hh, r⟩
    · simp [Value.ownBlock] at he
    · have : g' = g := by simpa [Value.ownBlock] using he
      subst this
      rw [hh] at hh'
      injection hh' with hh'
      injection hh' with _ hh'
      exact hne hh'
theorem OwnV.ne_blk {g : Nat} {t : TypeId} {ds : List Value} (h : OwnV w base e v cs) (hg : Blk w g t ds) (hne : e ≠ t) : some g ≠ v.ownBlock := by
  rcases h.2 with ⟨rfl, _⟩ | ⟨g', cap, cur, rfl, _, hh, r⟩
  · simp [Value.ownBlock]
  · intro he
    have : g = g' := by simpa [Value.ownBlock] using he
    subst this
    unfold Blk at hg
    rw [hh] at hg
    injection hg with hg
    injection hg with _ hg
    exact hne hg
/-- Its parts: where it lies, what is read there. -/
theorem OwnV.parts (h : OwnV w base e v cs) : ∃ A c, v = .slice A cs.length c ∧ cs.length ≤ c ∧ (A = none → c = 0) ∧ ∀ i, i < cs.length → ∃ g, A = some ⟨g, 0, none⟩ ∧ w.cell? ⟨g, i, none⟩ = cs[i]? := by
  obtain ⟨h1, ⟨rfl, h2⟩ | ⟨g, cap, cur, rfl, hg, hh, hn, hm, hs, ht⟩⟩ := h
  · exact ⟨none, 0, by rw [h2], by omega, fun _ => rfl, fun i hi => by omega⟩
  · refine ⟨_, cap, rfl, hn, (fun h => by cases h), fun i hi => ⟨g, rfl, ?_⟩⟩
    have hc : w.cell? ⟨g, i, none⟩ = cur[i]? := cell_of_row w g i cur e (0, 0) hh
    rw [hc, ← ht, Nat.mul_one, List.getElem?_take, if_pos hi]; simp
end
/-- append(s, y): s the call's own; y lies in a block of one cell. -/
theorem append_val {P : Program} {w : World} {ops : Array Oper} {rest : List Oper} {o : Oper} {a : Act} {Q : Exit → Act → World → Prop} (hgd : o.guard = none) (s x : Operand) (t : TypeId)
    (ho : o.op = .call { callee := .builtin .append, args := #[s, x], argTypes := #[t, t] })
    (base : Nat) (e : TypeId) (bytes : Nat) (ht : P.underlying t = some (.slice e)) (hi : (P.info? e).map (fun i => (i.zero.map (·.cells.size), i.size, i.bytes)) = some (some 1, 1, bytes))
    (v : Value) (cs : List Value) (hs : a.eval s = v) (hown : OwnV w base e v cs)
    (g : Nat) (u : Value) (hx : a.eval x = .slice (some ⟨g, 0, none⟩) 1 1) (hg : Blk w g e [u]) (h1 : u.oneCell' = true)
    (hbytes : (cs.length + 1) * bytes ≤ 140737488355328) (h63 : cs.length + 1 ≤ 140737488355328) (hbase : base ≤ w.heap.size)
    (h : ∀ v' w', OwnV w' base e v' (cs ++ [u]) → w.grownBy w' v.ownBlock → wpList P ops Q rest (a.put o.dst v') w') :
    wpList P ops Q (o :: rest) a w := by
  cases hie : P.info? e with
  | none => simp [hie] at hi
  | some i =>
    cases hz : i.zero with
    | none => simp [hie, hz] at hi
    | some z =>
      simp [hie, hz] at hi
      refine wpList_append_own w hgd s x t ho base e i z 1 bytes ht hie hz hi.2.1 hi.2.2 (by simpa using hi.1) (by omega) v cs.length cs hs hown ⟨g, 0, none⟩ 1 1 [u] hx (by simp) ?_ ?_ (by unfold maxLen; omega) hbytes hbase ?_
      · intro j u' hj
        rw [add_lit, Nat.zero_add, hg.cell]
        exact hj
      · intro u' hu'
        obtain rfl := List.mem_singleton.1 hu'
        exact h1
      · intro v' w' h2 h3 _
        refine h v' w' ?_ h3
        unfold OwnV
        rw [List.length_append]
        exact h2
/-- A slice literal of one value. -/
theorem literal_one {P : Program} {ops : Array Oper} {rest : List Oper} {o : Oper} {a : Act} {w : World} {Q : Exit → Act → World → Prop} (hw : Region.wanted o (yielded ops a.tmps) = true) (t e : TypeId) (x : Operand) (ho : o.op = .buildSlice t 1 #[(0, x)])
    (u : Value) (hu : a.eval x = u) (h1 : u.cells = #[u]) (ht : P.underlying t = some (.slice e)) (hsz : (P.info? e).map (·.size) = some 1) (hz : ((P.info? e).bind (·.zero)).isSome = true)
    (h : ∀ (g : Nat) (w' : World), w.heap.size = g → Blk w' g e [u] → Below w.heap.size w w' → w'.heap.size = g + 1 → wpList P ops Q rest (a.put o.dst (.slice (some ⟨g, 0, none⟩) 1 1)) w') :
    wpList P ops Q (o :: rest) a w := by
  have h2 := h w.heap.size _ rfl (Blk.new w e [u]) ((Below.refl _ _).alloc (Nat.le_refl _) _) (by simp)
  cases hie : P.info? e with
  | none => simp [hie] at hsz
  | some ie =>
    simp only [hie, Option.map_some, Option.some.injEq, Option.bind_some] at hsz hz
    obtain ⟨z, hzz⟩ := Option.isSome_iff_exists.1 hz
    refine wpList_step fun K hK => ?_
    rw [if_pos hw]
    refine wp_buildSlice t e 1 _ ho [u].toArray ie z ht hie hzz (by rw [hsz]; omega) (by rw [hsz]; omega) ?_ (hK _ _ h2)
    have hp : ((#[((0 : Nat), x)] : Array (Nat × Operand)).map fun (i, x) => (i, a.eval x)).toList = [(0, u)] := by simp [hu]
    rw [hp, hsz]
    exact Great.fill_flat [u] _ (fun v hv => by obtain rfl := List.mem_singleton.1 hv; exact h1) (by simp)
/-- Own rows of numbers in an own row. -/
def OwnL (w : World) (base : Nat) (e e1 : TypeId) (k : IntKind) (v : Value) (xss : List (List Int)) : Prop :=
  ∃ cs, OwnV w base e v cs ∧ cs.length = xss.length ∧ ∀ j, j < xss.length → Own w base e1 k (cs.getD j undef) (xss.getD j [])
section
variable {w w1 : World} {base : Nat} {e e1 : TypeId} {k : IntKind} {v : Value} {xss : List (List Int)}
theorem OwnL.nil (w : World) (base : Nat) (e e1 : TypeId) (k : IntKind) : OwnL w base e e1 k (.slice none 0 0) [] := ⟨[], OwnV.nil _ _ _, rfl, fun j hj => by simp at hj⟩
theorem OwnL.below (h : OwnL w base e e1 k v xss) (hb : Below w.heap.size w w1) : OwnL w1 base e e1 k v xss := by
  obtain ⟨cs, h1, h2, h3⟩ := h
  exact ⟨cs, h1.below hb, h2, fun j hj => (h3 j hj).below hb⟩
theorem OwnL.drew (h : OwnL w base e e1 k v xss) : OwnL w.drew base e e1 k v xss := h
theorem OwnL.lower {b : Nat} (h : OwnL w base e e1 k v xss) (hb : b ≤ base) : OwnL w b e e1 k v xss := by
  obtain ⟨cs, h1, h2, h3⟩ := h
  exact ⟨cs, h1.lower hb, h2, fun j hj => (h3 j hj).lower hb⟩
theorem OwnL.grown_below {B : Nat} {w0 : World} (h : OwnL w base e e1 k v xss) (hb : Below B w0 w) (hg : w.grownBy w1 v.ownBlock) (h1 : B ≤ w.heap.size) (h2 : B ≤ base) : Below B w0 w1 := by
  obtain ⟨cs, h3, _, _⟩ := h
  exact h3.grown_below hb hg h1 h2
end
/-- append(s, y) of an own row of numbers. -/
theorem append_row {P : Program} {w : World} {ops : Array Oper} {rest : List Oper} {o : Oper} {a : Act} {Q : Exit → Act → World → Prop} (hgd : o.guard = none) (s x : Operand) (t : TypeId)
    (ho : o.op = .call { callee := .builtin .append, args := #[s, x], argTypes := #[t, t] })
    (base : Nat) (e e1 : TypeId) (k : IntKind) (bytes : Nat) (ht : P.underlying t = some (.slice e)) (hi : (P.info? e).map (fun i => (i.zero.map (·.cells.size), i.size, i.bytes)) = some (some 1, 1, bytes)) (hne : e ≠ e1)
    (v : Value) (xss : List (List Int)) (hs : a.eval s = v) (hown : OwnL w base e e1 k v xss)
    (g : Nat) (u : Value) (ys : List Int) (hx : a.eval x = .slice (some ⟨g, 0, none⟩) 1 1) (hg : Blk w g e [u]) (hu : Own w base e1 k u ys)
    (hbytes : (xss.length + 1) * bytes ≤ 140737488355328) (h63 : xss.length + 1 ≤ 140737488355328) (hbase : base ≤ w.heap.size)
    (h : ∀ v' w', OwnL w' base e e1 k v' (xss ++ [ys]) → w.grownBy w' v.ownBlock → wpList P ops Q rest (a.put o.dst v') w') :
    wpList P ops Q (o :: rest) a w := by
  obtain ⟨cs, h1, h2, h3⟩ := hown
  obtain ⟨A, c, hv, _⟩ := hu.parts
  refine append_val hgd s x t ho base e bytes ht hi v cs hs h1 g u hx hg (by rw [hv]; rfl) (by rw [h2]; exact hbytes) (by rw [h2]; exact h63) hbase ?_
  intro v' w' h4 h5
  refine h v' w' ⟨cs ++ [u], h4, by simp [h2], fun j hj => ?_⟩ h5
  rw [List.length_append, List.length_singleton] at hj
  by_cases hjl : j < xss.length
  · have hjc : j < cs.length := by omega
    rw [List.getD_eq_getElem?_getD, List.getD_eq_getElem?_getD, List.getElem?_append_left hjl, List.getElem?_append_left hjc, ← List.getD_eq_getElem?_getD, ← List.getD_eq_getElem?_getD]
    exact (h3 j hjl).kept h5 (h1.ne_own (h3 j hjl) hne)
  · obtain rfl : j = xss.length := by omega
    rw [List.getD_eq_getElem?_getD, List.getD_eq_getElem?_getD, List.getElem?_append_right (Nat.le_refl _), ← h2, List.getElem?_append_right (Nat.le_refl _)]
    simp only [Nat.sub_self, List.getElem?_cons_zero, Option.getD_some]
    exact hu.kept h5 (h1.ne_own hu hne)
end Go.Cour
