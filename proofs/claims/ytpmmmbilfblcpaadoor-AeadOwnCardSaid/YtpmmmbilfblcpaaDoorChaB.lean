/- A word of four bytes. -/
import Derived.Test.YtpmmmbilfblcpaaDoorChaA
namespace Go.Proofs.YtpmmmbilfblcpaaDoor
open Go.RowKit Go.Cour
/-- Four bytes as a word. -/
def word4 (b0 b1 b2 b3 : Int) : Int := bits .or .u32 (bits .or .u32 (bits .or .u32 b0 (b1 * 256)) (b2 * 65536)) (b3 * 16777216)
set_option maxHeartbeats 1000000 in
set_option maxRecDepth 100000 in
theorem word_calls (g o i n c : Nat) (p : Int) (b0 b1 b2 b3 : Int) (w : World) (hp : p = (i : Int)) (hi : i + 3 < n) (hn : n < 1000000)
    (h0 : w.cell? ⟨g, o + i, none⟩ = some (.int .u8 b0)) (h1 : w.cell? ⟨g, o + (i + 1), none⟩ = some (.int .u8 b1)) (h2 : w.cell? ⟨g, o + (i + 2), none⟩ = some (.int .u8 b2)) (h3 : w.cell? ⟨g, o + (i + 3), none⟩ = some (.int .u8 b3))
    (r0 : 0 ≤ b0 ∧ b0 < 256) (r1 : 0 ≤ b1 ∧ b1 < 256) (r2 : 0 ≤ b2 ∧ b2 < 256) (r3 : 0 ≤ b3 ∧ b3 < 256) :
    Calls Tryd.prog 42 #[.slice (some ⟨g, o, none⟩) n c, .int .i64 p] w fun e w' => e = .returned (.int .u32 (word4 b0 b1 b2 b3)) ∧ ∃ m, w' = w.drewN m := by
  subst hp
  have i0 : (i : Int) < n := by omega
  have i1 : (i : Int) + 1 < n := by omega
  have i2 : (i : Int) + 2 < n := by omega
  have i3 : (i : Int) + 3 < n := by omega
  have i4 : (i : Int) < 1000000 := by omega
  clear hi hn
  go_enter Tryd.func42, Tryd.ntmps42
  go_wp2
  go_quiet (fail)
  go_wp2
  go_ret
  exact ⟨rfl, _, rfl⟩

/-- A byte list holds bytes. -/
def bytesOk (xs : List Int) : Prop := ∀ i, 0 ≤ rd xs i ∧ rd xs i < 256
def wordAt (xs : List Int) (i : Nat) : Int := word4 (rd xs i) (rd xs (i + 1)) (rd xs (i + 2)) (rd xs (i + 3))
theorem wordB_calls (g i n c : Nat) (t : TypeId) (p : Int) (xs : List Int) (w : World) (hp : p = (i : Int)) (hg : Blk w g t (ints .u8 xs)) (hi : i + 3 < n) (hn : n = xs.length) (hx : n < 1000000) (r : bytesOk xs) :
    Calls Tryd.prog 42 #[.slice (some ⟨g, 0, none⟩) n c, .int .i64 p] w fun e w' => e = .returned (.int .u32 (wordAt xs i)) ∧ ∃ m, w' = w.drewN m := by
  subst hn
  exact word_calls g 0 i _ c p _ _ _ _ w hp hi hx (by rw [Nat.zero_add]; exact hg.cellI i (by omega)) (by rw [Nat.zero_add]; exact hg.cellI _ (by omega)) (by rw [Nat.zero_add]; exact hg.cellI _ (by omega)) (by rw [Nat.zero_add]; exact hg.cellI _ (by omega)) (r _) (r _) (r _) (r _)
/-- The first state: constants, the key's words, the counter, the nonce's. -/
def first0 (c : Int) : List Int := [1634760805, 857760878, 2036477234, 1797285236, 0, 0, 0, 0, 0, 0, 0, 0, c, 0, 0, 0]
def firstK (key : List Int) (c : Int) (n : Nat) : List Int := (List.range n).foldl (fun s i => s.set (4 + i) (wordAt key (4 * i))) (first0 c)
def firstN (key : List Int) (c : Int) (nonce : List Int) (n : Nat) : List Int := (List.range n).foldl (fun s i => s.set (13 + i) (wordAt nonce (4 * i))) (firstK key c 8)
def cols (s : List Int) (n : Nat) : List Int := (List.range n).foldl (fun s i => quarter s i (4 + i) (8 + i) (12 + i)) s
def diags (s : List Int) (n : Nat) : List Int := (List.range n).foldl (fun s i => quarter s i (4 + (i + 1) % 4) (8 + (i + 2) % 4) (12 + (i + 3) % 4)) s
def rounds (s : List Int) (n : Nat) : List Int := (List.range n).foldl (fun s _ => diags (cols s 4) 4) s
def outByte (s f : List Int) (i : Nat) : Int := ((rd s (i / 4) + rd f (i / 4)) % 4294967296 / 2 ^ (8 * (i % 4))) % 256
def outTo (s f : List Int) (n : Nat) : List Int := (List.range n).foldl (fun o i => o.set i (outByte s f i)) (List.replicate 64 0)
def block (key : List Int) (c : Int) (nonce : List Int) : List Int := outTo (rounds (firstN key c nonce 3) 10) (firstN key c nonce 3) 64
theorem info65 : (Tryd.prog.info? 65).map (·.size) = some 16 := by kernel_rfl
theorem arr65 : Tryd.prog.underlying 65 = some (.array 16 43) := by kernel_rfl
theorem info44 : (Tryd.prog.info? 44).map (·.size) = some 64 := by kernel_rfl
theorem arr44 : Tryd.prog.underlying 44 = some (.array 64 5) := by kernel_rfl

theorem foldl_succ {α : Type} (f : α → Nat → α) (s : α) (n : Nat) : (List.range (n + 1)).foldl f s = f ((List.range n).foldl f s) n := by
  rw [List.range_succ, List.foldl_append]; rfl
theorem firstK_succ (key : List Int) (c : Int) (n : Nat) : firstK key c (n + 1) = (firstK key c n).set (4 + n) (wordAt key (4 * n)) := foldl_succ _ _ _
theorem firstN_succ (key : List Int) (c : Int) (nonce : List Int) (n : Nat) : firstN key c nonce (n + 1) = (firstN key c nonce n).set (13 + n) (wordAt nonce (4 * n)) := foldl_succ _ _ _
theorem firstK_length (key : List Int) (c : Int) : ∀ n, (firstK key c n).length = 16
  | 0 => rfl
  | n + 1 => by rw [firstK_succ, List.length_set]; exact firstK_length key c n
theorem firstN_length (key : List Int) (c : Int) (nonce : List Int) : ∀ n, (firstN key c nonce n).length = 16
  | 0 => firstK_length key c 8
  | n + 1 => by rw [firstN_succ, List.length_set]; exact firstN_length key c nonce n

/-- What the blocks of a call of Block hold before its rounds. -/
structure BS (w wr : World) (key nonce first : List Int) : Prop where
  k : Blk wr w.heap.size 23 (ints .u8 key)
  n : Blk wr (w.heap.size + 1) 24 (ints .u8 nonce)
  r : Blk wr (w.heap.size + 1 + 1) 44 (ints .u8 (List.replicate 64 0))
  f : Blk wr (w.heap.size + 1 + 1 + 1) 65 (ints .u32 first)
  below : Below w.heap.size w wr
  size : wr.heap.size = w.heap.size + 1 + 1 + 1 + 1

theorem quarterI_calls (g a b c d : Nat) (pa pb pc pd : Int) (xs : List Int) (w : World) (ea : pa = a) (eb : pb = b) (ec : pc = c) (ed : pd = d) (hx : xs.length = 16) (ha : a < 16) (hb : b < 16) (hc : c < 16) (hd : d < 16) (hg : Blk w g 65 (ints .u32 xs)) (hw : words xs) :
    Calls Tryd.prog 43 #[.pointer (some ⟨g, 0, none⟩), .int .i64 pa, .int .i64 pb, .int .i64 pc, .int .i64 pd] w fun e w' => e = .returned (.tuple #[]) ∧ Blk w' g 65 (ints .u32 (quarter xs a b c d)) ∧ Only g w w' := by
  subst ea eb ec ed
  exact quarter_calls g a b c d xs w hx ha hb hc hd hg hw
theorem cols_succ (s : List Int) (n : Nat) : cols s (n + 1) = quarter (cols s n) n (4 + n) (8 + n) (12 + n) := foldl_succ _ _ _
theorem diags_succ (s : List Int) (n : Nat) : diags s (n + 1) = quarter (diags s n) n (4 + (n + 1) % 4) (8 + (n + 2) % 4) (12 + (n + 3) % 4) := foldl_succ _ _ _
theorem rounds_succ (s : List Int) (n : Nat) : rounds s (n + 1) = diags (cols (rounds s n) 4) 4 := foldl_succ _ _ _
theorem outTo_succ (s f : List Int) (n : Nat) : outTo s f (n + 1) = (outTo s f n).set n (outByte s f n) := foldl_succ _ _ _
theorem cols_zero (s : List Int) : cols s 0 = s := rfl
theorem diags_zero (s : List Int) : diags s 0 = s := rfl
theorem rounds_zero (s : List Int) : rounds s 0 = s := rfl
theorem outTo_zero (s f : List Int) : outTo s f 0 = List.replicate 64 0 := rfl
theorem cols_length (s : List Int) : ∀ n, (cols s n).length = s.length
  | 0 => rfl
  | n + 1 => by rw [cols_succ, quarter_length]; exact cols_length s n
theorem diags_length (s : List Int) : ∀ n, (diags s n).length = s.length
  | 0 => rfl
  | n + 1 => by rw [diags_succ, quarter_length]; exact diags_length s n
theorem rounds_length (s : List Int) : ∀ n, (rounds s n).length = s.length
  | 0 => rfl
  | n + 1 => by rw [rounds_succ, diags_length, cols_length]; exact rounds_length s n
theorem outTo_length (s f : List Int) : ∀ n, (outTo s f n).length = 64
  | 0 => by simp [outTo]
  | n + 1 => by rw [outTo_succ, List.length_set]; exact outTo_length s f n
theorem words_cols {s : List Int} (h : words s) : ∀ n, words (cols s n)
  | 0 => h
  | n + 1 => by rw [cols_succ]; exact words_quarter (words_cols h n) _ _ _ _
theorem words_diags {s : List Int} (h : words s) : ∀ n, words (diags s n)
  | 0 => h
  | n + 1 => by rw [diags_succ]; exact words_quarter (words_diags h n) _ _ _ _
theorem words_rounds {s : List Int} (h : words s) : ∀ n, words (rounds s n)
  | 0 => h
  | n + 1 => by rw [rounds_succ]; exact words_diags (words_cols (words_rounds h n) 4) 4
theorem word4_bound (a b c d : Int) : 0 ≤ word4 a b c d ∧ word4 a b c d < 4294967296 := bits_u32_bound _ _ _
theorem words_first0 {c : Int} (hc : 0 ≤ c ∧ c < 4294967296) : words (first0 c) := by
  intro i
  by_cases h : i < 16
  · have : i = 0 ∨ i = 1 ∨ i = 2 ∨ i = 3 ∨ i = 4 ∨ i = 5 ∨ i = 6 ∨ i = 7 ∨ i = 8 ∨ i = 9 ∨ i = 10 ∨ i = 11 ∨ i = 12 ∨ i = 13 ∨ i = 14 ∨ i = 15 := by omega
    rcases this with rfl | rfl | rfl | rfl | rfl | rfl | rfl | rfl | rfl | rfl | rfl | rfl | rfl | rfl | rfl | rfl <;> simp [first0, rd] <;> omega
  · have : rd (first0 c) i = 0 := by unfold rd; rw [List.getD_eq_getElem?_getD, List.getElem?_eq_none (by simp [first0]; omega)]; rfl
    omega
theorem words_firstK (key : List Int) {c : Int} (hc : 0 ≤ c ∧ c < 4294967296) : ∀ n, words (firstK key c n)
  | 0 => words_first0 hc
  | n + 1 => by rw [firstK_succ]; exact words_set (words_firstK key hc n) _ (word4_bound _ _ _ _).1 (word4_bound _ _ _ _).2
theorem words_firstN (key : List Int) {c : Int} (hc : 0 ≤ c ∧ c < 4294967296) (nonce : List Int) : ∀ n, words (firstN key c nonce n)
  | 0 => words_firstK key hc 8
  | n + 1 => by rw [firstN_succ]; exact words_set (words_firstN key hc nonce n) _ (word4_bound _ _ _ _).1 (word4_bound _ _ _ _).2
/-- What they hold in its rounds. -/
structure BR (w wr : World) (G : Nat) (first s : List Int) : Prop where
  r : Blk wr (w.heap.size + 1 + 1) 44 (ints .u8 (List.replicate 64 0))
  f : Blk wr (w.heap.size + 1 + 1 + 1) 65 (ints .u32 first)
  s : Blk wr G 65 (ints .u32 s)
  below : Below w.heap.size w wr
  lt : w.heap.size + 1 + 1 + 1 < G
  size : wr.heap.size = G + 1
theorem BR.start {w wr : World} {key nonce F : List Int} (hS : BS w wr key nonce F) :
    BR w ((wr.alloc (.cells (ints .u32 (List.replicate 16 0)).toArray 65)).setRow wr.heap.size (ints .u32 F).toArray) wr.heap.size F F := by
  have hz := hS.size
  exact ⟨(hS.r.alloc _).setRowOther (by omega) _, (hS.f.alloc _).setRowOther (by omega) _, (Blk.new wr 65 _).setRow _, below_setRow (hS.below.alloc (by omega) _) (by omega) _, by omega, by simp⟩
theorem BR.quarter {w wr wx : World} {G : Nat} {first s s' : List Int} (h : BR w wr G first s) (hs : Blk wx G 65 (ints .u32 s')) (ho : Only G wr wx) : BR w wx G first s' :=
  ⟨h.r.only ho (by have := h.lt; omega), h.f.only ho (by have := h.lt; omega), hs, ho.below h.below (by have := h.lt; omega), h.lt, by rw [ho.size]; exact h.size⟩
/-- What they hold when the bytes are laid. -/
structure BO (w wr : World) (G H : Nat) (first s out : List Int) : Prop where
  r : Blk wr (w.heap.size + 1 + 1) 44 (ints .u8 (List.replicate 64 0))
  f : Blk wr (w.heap.size + 1 + 1 + 1) 65 (ints .u32 first)
  s : Blk wr G 65 (ints .u32 s)
  o : Blk wr H 44 (ints .u8 out)
  below : Below w.heap.size w wr
  lt : w.heap.size + 1 + 1 + 1 < G
  lt' : G < H
theorem BO.start {w wr : World} {G : Nat} {first s : List Int} (h : BR w wr G first s) : BO w (wr.alloc (.cells (ints .u8 (List.replicate 64 0)).toArray 44)) G wr.heap.size first s (outTo s first 0) :=
  ⟨h.r.alloc _, h.f.alloc _, h.s.alloc _, Blk.new wr 44 _, h.below.alloc (by have := h.size; have := h.lt; omega) _, h.lt, by have := h.size; omega⟩
theorem BO.next {w wr : World} {G H n : Nat} {first s : List Int} (h : BO w wr G H first s (outTo s first n)) : BO w (wr.setCell ⟨H, n, none⟩ (.int .u8 (outByte s first n))).drew G H first s (outTo s first (n + 1)) := by
  have h1 := h.lt
  have h2 := h.lt'
  refine ⟨(h.r.setOther (by simp; omega) _).drew, (h.f.setOther (by simp; omega) _).drew, (h.s.setOther (by simp; omega) _).drew, ?_, (h.below.setCell (by simp; omega) _).drew, h1, h2⟩
  rw [outTo_succ]; exact (h.o.setI n _).drew
theorem outByte_eq (s f : List Int) (n q r : Nat) (h : n = 4 * q + r) (hr : r < 4) : outByte s f n = ((rd s q + rd f q) % 4294967296 / 2 ^ (8 * r)) % 256 := by
  have e1 : n / 4 = q := by omega
  have e2 : n % 4 = r := by omega
  rw [outByte, e1, e2]
set_option maxHeartbeats 4000000 in
set_option maxRecDepth 100000 in
theorem block_calls (key nonce : List Int) (c : Int) (w : World) (hk : key.length = 32) (hn : nonce.length = 12) (rk : bytesOk key) (rn : bytesOk nonce) (hc : 0 ≤ c ∧ c < 4294967296) :
    Calls Tryd.prog 21 #[.agg (ints .u8 key).toArray, .int .u32 c, .agg (ints .u8 nonce).toArray] w fun e w' => e = .returned (.agg (ints .u8 (block key c nonce)).toArray) ∧ Below w.heap.size w w' := by
  have HK := hid hk
  have HN := hid hn
  have HC := hid hc
  clear hk hn hc
  go_enter Tryd.func21, Tryd.ntmps21
  go_wp2_with fail
  go_loopg [17] 8 (fun kq v17 wr => ∃ i : Nat, i ≤ 8 ∧ v17 = .int .i64 i ∧ Hd (kq = 8 - i) ∧ BS w wr key nonce (firstK key c i))
  case atStart =>
    refine ⟨0, by omega, rfl, hid rfl, ?_, ?_, ?_, ?_, ?_, ?_⟩
    · exact ((((Blk.new w 23 (ints .u8 key)).alloc _).alloc _).alloc _)
    · exact ((Blk.new' (w.alloc _) 24 (ints .u8 nonce) _ (by simp)).alloc _).alloc _
    · exact (Blk.new' ((w.alloc _).alloc _) 44 (ints .u8 (List.replicate 64 0)) _ (by simp)).alloc _
    · exact Blk.new' (((w.alloc _).alloc _).alloc _) 65 (ints .u32 (first0 c)) _ (by simp)
    · exact ((((Below.refl _ _).alloc (Nat.le_refl _) _).alloc (by simp) _).alloc (by simp; try omega) _).alloc (by simp; try omega) _
    · simp
  case round =>
    obtain ⟨i, hi, rfl, hq, hS⟩ := hrel
    by_cases hlt : i < 8
    · have hfc := hS.f.cellI (4 + i) (by rw [firstK_length]; omega)
      have hff := hS.f.frozen (4 + i)
      go_wp2_with (go_at_call 42; refine (wordB_calls w.heap.size (4 * i) _ _ 23 _ key _ (by omega) hS.k (by omega) HK.out.symm (by omega) rk).mono ?_; rintro e w' ⟨rfl, m, rfl⟩)
      go_roundg (gk - 1)
      case measure => have := hq.out; omega
      case rel =>
        refine ⟨i + 1, by omega, by go_num, hid (by have := hq.out; omega), ?_, ?_, ?_, ?_, ?_, ?_⟩
        · exact ((hS.k.drewN m).setOther (by simp; try omega) _)
        · exact ((hS.n.drewN m).setOther (by simp; try omega) _)
        · exact ((hS.r.drewN m).setOther (by simp; try omega) _)
        · rw [firstK_succ]; exact (hS.f.drewN m).setI (4 + i) _
        · exact (below_drewN hS.below m).setCell (by simp; try omega) _
        · simpa [World.setCell] using hS.size
    · obtain rfl : i = 8 := by omega
      clear hq hi hlt
      go_wp2_with fail
      obtain ⟨wo, rfl⟩ : ∃ wo : World, wo = wr := ⟨_, rfl⟩
      go_loopg [28] 3 (fun kq v28 wr => ∃ i : Nat, i ≤ 3 ∧ v28 = .int .i64 i ∧ Hd (kq = 3 - i) ∧ BS w wr key nonce (firstN key c nonce i))
      case atStart => exact ⟨0, by omega, rfl, hid rfl, hS⟩
      case round =>
        clear hS
        obtain ⟨i, hi, rfl, hq, hS⟩ := hrel
        by_cases hlt : i < 3
        · have hfc := hS.f.cellI (13 + i) (by rw [firstN_length]; omega)
          have hff := hS.f.frozen (13 + i)
          go_wp2_with (go_at_call 42; refine (wordB_calls (w.heap.size + 1) (4 * i) _ _ 24 _ nonce _ (by omega) hS.n (by omega) HN.out.symm (by omega) rn).mono ?_; rintro e w' ⟨rfl, m, rfl⟩)
          go_roundg (gk - 1)
          case measure => have := hq.out; omega
          case rel =>
            refine ⟨i + 1, by omega, by go_num, hid (by have := hq.out; omega), ?_, ?_, ?_, ?_, ?_, ?_⟩
            · exact ((hS.k.drewN m).setOther (by simp; try omega) _)
            · exact ((hS.n.drewN m).setOther (by simp; try omega) _)
            · exact ((hS.r.drewN m).setOther (by simp; try omega) _)
            · rw [firstN_succ]; exact (hS.f.drewN m).setI (13 + i) _
            · exact (below_drewN hS.below m).setCell (by simp; try omega) _
            · simpa [World.setCell] using hS.size
        · obtain rfl : i = 3 := by omega
          clear hq hi hlt
          have hl16 : (ints .u32 (firstN key c nonce 3)).length = 16 := by simpa using firstN_length key c nonce 3
          go_wp2_with (first
            | (refine load_blk rfl 65 _ rfl (w.heap.size + 1 + 1 + 1) rfl 65 _ hS.f 16 43 arr65 hl16 info65 ?_)
            | (refine store_blk rfl 65 _ _ rfl wr.heap.size _ rfl rfl 65 _ (Blk.new wr 65 (ints .u32 (List.replicate 16 0))) 16 info65 hl16 (by simp) (ints_one _ _) ?_))
          have hR := BR.start hS
          have hl3 : (firstN key c nonce 3).length = 16 := firstN_length key c nonce 3
          have hw3 : words (firstN key c nonce 3) := words_firstN key HC.out nonce 3
          have hbl : block key c nonce = outTo (rounds (firstN key c nonce 3) 10) (firstN key c nonce 3) 64 := rfl
          have HBL := hid hbl
          clear hS hl16 hbl
          generalize firstN key c nonce 3 = F at *
          have HL3 := hid hl3
          clear hl3
          clear HK HN HC
          obtain ⟨G, hG⟩ : ∃ G, G = wr.heap.size := ⟨_, rfl⟩
          obtain ⟨wo, rfl⟩ : ∃ wo : World, wo = wr := ⟨_, rfl⟩
          rw [← hG] at hR ⊢
          clear hG
          go_loopg [40] 10 (fun kq v40 wr => ∃ i : Nat, i ≤ 10 ∧ v40 = .int .i64 i ∧ Hd (kq = 10 - i) ∧ BR w wr G F (rounds F i))
          case atStart => exact ⟨0, by omega, rfl, hid rfl, by rw [rounds_zero]; exact hR⟩
          case round =>
            clear hR
            obtain ⟨i, hi, rfl, hq, hR⟩ := hrel
            by_cases hlt : i < 10
            · have hd1 : decide ((i : Int) < 10) = true := by simp; omega
              go_wp2_with fail
              obtain ⟨wo1, rfl⟩ : ∃ wo : World, wo = wr := ⟨_, rfl⟩
              obtain ⟨gk1, hgk⟩ : ∃ g : Nat, Hd (g = gk) := ⟨gk, hid rfl⟩
              have hq1 : Hd (gk1 = 10 - i) := hid (by rw [hgk.out]; exact hq.out)
              go_loopg [42] 4 (fun kq v42 wr => ∃ j : Nat, j ≤ 4 ∧ v42 = .int .i64 j ∧ Hd (kq = 4 - j) ∧ BR w wr G F (cols (rounds F i) j))
              case atStart => exact ⟨0, by omega, rfl, hid rfl, by rw [cols_zero]; exact hR⟩
              case round =>
                clear hR
                obtain ⟨j, hj, rfl, hq2, hR⟩ := hrel
                by_cases hjlt : j < 4
                · go_wp2_with (go_at_call 43; refine (quarterI_calls G j (4 + j) (8 + j) (12 + j) _ _ _ _ (cols (rounds F i) j) _ rfl (by omega) (by omega) (by omega) (by rw [cols_length, rounds_length]; exact HL3.out) (by omega) (by omega) (by omega) (by omega) hR.s (words_cols (words_rounds hw3 i) j)).mono ?_; rintro e wx ⟨rfl, hs, ho⟩)
                  go_roundg (gk - 1)
                  case measure => have := hq2.out; omega
                  case rel => exact ⟨j + 1, by omega, by go_num, hid (by have := hq2.out; omega), hR.quarter (by rw [cols_succ]; exact hs) ho⟩
                · have hj4 : (j : Int) = 4 := by omega
                  rw [hj4]
                  obtain rfl : j = 4 := by omega
                  clear hq2 hj hjlt hj4
                  go_wp2_with fail
                  obtain ⟨wo2, rfl⟩ : ∃ wo : World, wo = wr := ⟨_, rfl⟩
                  go_loopg [54] 4 (fun kq v54 wr => ∃ j : Nat, j ≤ 4 ∧ v54 = .int .i64 j ∧ Hd (kq = 4 - j) ∧ BR w wr G F (diags (cols (rounds F i) 4) j))
                  case atStart => exact ⟨0, by omega, rfl, hid rfl, by rw [diags_zero]; exact hR⟩
                  case round =>
                    clear hR
                    obtain ⟨j, hj, rfl, hq2, hR⟩ := hrel
                    by_cases hjlt : j < 4
                    · go_wp2_with (go_at_call 43; refine (quarterI_calls G j (4 + (j + 1) % 4) (8 + (j + 2) % 4) (12 + (j + 3) % 4) _ _ _ _ (diags (cols (rounds F i) 4) j) _ rfl (by omega) (by omega) (by omega) (by rw [diags_length, cols_length, rounds_length]; exact HL3.out) (by omega) (by omega) (by omega) (by omega) hR.s (words_diags (words_cols (words_rounds hw3 i) 4) j)).mono ?_; rintro e wx ⟨rfl, hs, ho⟩)
                      go_roundg (gk - 1)
                      case measure => have := hq2.out; omega
                      case rel => exact ⟨j + 1, by omega, by go_num, hid (by have := hq2.out; omega), hR.quarter (by rw [diags_succ]; exact hs) ho⟩
                    · have hj4 : (j : Int) = 4 := by omega
                      rw [hj4]
                      obtain rfl : j = 4 := by omega
                      clear hq2 hj hjlt hj4
                      go_wp2_with fail
                      go_roundg (gk1 - 1)
                      case measure => have := hq1.out; have := hgk.out; omega
                      case rel => exact ⟨i + 1, by omega, by go_num, hid (by have := hq1.out; have := hgk.out; omega), by rw [rounds_succ]; exact hR⟩
            · obtain rfl : i = 10 := by omega
              clear hq hi hlt
              go_wp2_with fail
              have hO := BO.start hR
              clear hR
              obtain ⟨H, hH⟩ : ∃ H, H = wr.heap.size := ⟨_, rfl⟩
              obtain ⟨wo1, rfl⟩ : ∃ wo : World, wo = wr := ⟨_, rfl⟩
              rw [← hH] at hO ⊢
              clear hH
              have hlS : (rounds F 10).length = 16 := by rw [rounds_length]; exact HL3.out
              have HLS := hid hlS
              clear hlS hw3
              generalize rounds F 10 = S at hO HBL HLS
              go_loopg [73] 64 (fun kq v73 wr => ∃ i : Nat, i ≤ 64 ∧ v73 = .int .i64 i ∧ Hd (kq = 64 - i) ∧ BO w wr G H F S (outTo S F i))
              case atStart => exact ⟨0, by omega, rfl, hid rfl, hO⟩
              case round =>
                clear hO
                obtain ⟨i, hi, rfl, hq, hO⟩ := hrel
                by_cases hlt : i < 64
                · obtain ⟨q, r, hqr, hr, hq16⟩ : ∃ q r : Nat, Hd (i = 4 * q + r) ∧ r < 4 ∧ q < 16 := ⟨i / 4, i % 4, hid (by omega), by omega, by omega⟩
                  have cs := hO.s.cellI q (by have := HLS.out; omega)
                  have cf := hO.f.cellI q (by have := HL3.out; omega)
                  have co := hO.o.cellI i (by rw [outTo_length]; omega)
                  have fo := hO.o.frozen i
                  go_wp2_with fail
                  have a1 : IntKind.i64.wrap ((i : Int) / 4) = (q : Int) := by
                    have := hqr.out
                    rw [IntWalk.i64_in _ (by omega)]
                    omega
                  have a2 : (i : Int).tmod 4 = (r : Int) := by
                    have := hqr.out
                    rw [Int.tmod_eq_emod_of_nonneg (by omega)]
                    omega
                  have a3 : IntKind.i64.wrap (8 * (r : Int)) = 8 * (r : Int) := IntWalk.i64_in _ (by omega)
                  have a4 : 0 ≤ 8 * (r : Int) := by omega
                  have a5 : 8 * (r : Int) ≤ 32 := by omega
                  have a6 : (q : Int) < 16 := by omega
                  have a7 : (i : Int) < 64 := by omega
                  refine wp_region_still_tail 16 (by kernel_rfl) (by kernel_rfl) ?_
                  simp only [List.take_succ_cons, List.take_zero, List.drop_succ_cons, List.drop_zero]
                  change wpStill _ _ (World.drew _) (fun a' => wpList _ _ _ _ a' (World.drew _)) _ _
                  repeat still_step
                  refine wpStill_nil ?_
                  change wpList _ _ _ _ _ _
                  clear a1 a2 a3 a4 a5 a6
                  go_wp2_with fail
                  go_roundg (gk - 1)
                  case measure => have := hq.out; omega
                  case rel =>
                    refine ⟨i + 1, by omega, by go_num, hid (by have := hq.out; omega), ?_⟩
                    have hb := outByte_eq S F i q r hqr.out hr
                    have hn := hO.next
                    rw [hb] at hn
                    exact hn
                · obtain rfl : i = 64 := by omega
                  clear hq hi hlt
                  have hl64 : (ints .u8 (outTo S F 64)).length = 64 := by simpa using outTo_length S F 64
                  go_wp2_with (first
                    | (refine load_blk rfl 44 _ rfl H rfl 44 _ hO.o 64 5 arr44 hl64 info44 ?_)
                    | (refine store_blk rfl 44 _ _ rfl (w.heap.size + 1 + 1) _ rfl rfl 44 _ hO.r 64 info44 hl64 (by simp) (ints_one _ _) ?_))
                  refine bodyPost_ret (results_blk rfl _ _ (w.heap.size + 1 + 1) 44 _ 64 5 rfl (hO.r.setRow _) arr44 hl64 info44) rfl ?_
                  exact ⟨by rw [HBL.out], below_setRow hO.below (by omega) _⟩
end Go.Proofs.YtpmmmbilfblcpaaDoor
