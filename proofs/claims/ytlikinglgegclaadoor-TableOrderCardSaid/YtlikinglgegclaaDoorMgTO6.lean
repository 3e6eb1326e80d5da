import Derived.Test.YtlikinglgegclaaDoorProg
import Derived.StillTailTactics
import Derived.Deep.QuietTactic
import Derived.BigQuiet
import Derived.Laws.Closers25b
import Derived.Test.YtlikinglgegclaaDoorMgTO0
import Derived.Test.YtlikinglgegclaaDoorMgTO1
import Derived.Test.YtlikinglgegclaaDoorMgTO2
import Derived.Test.YtlikinglgegclaaDoorMgTO3
import Derived.Test.YtlikinglgegclaaDoorMgTO4
import Derived.Test.YtlikinglgegclaaDoorMgTO5
set_option linter.unusedSimpArgs false
set_option linter.unusedVariables false
open List (getElem_toArray getElem_cons_zero getElem_cons_succ)
/- A word, turned to the right. -/
namespace Go.Proofs.YtlikinglgegclaaDoor
open Go.RowKit Go.Cour
/-- x turned to the right by k. -/
def rotr (k : Nat) (x : Int) : Int := bits .or .u32 (x * 2 ^ (32 - k) % 4294967296) (x / 2 ^ k)
theorem rot2_calls (x : Int) (w : World) (h : 0 ≤ x) (h' : x < 4294967296) :
    Calls Tryd.prog 69 #[.int .u32 x, .int .u64 2] w fun e w' => e = .returned (.int .u32 (bits .or .u32 (x / 2 ^ 2) (x * 2 ^ (32 - 2) % 4294967296))) ∧ w' = w := by
  go_enter Tryd.func69, Tryd.ntmps69
  go_wp2
  go_ret
  exact ⟨rfl, rfl⟩
theorem rot6_calls (x : Int) (w : World) (h : 0 ≤ x) (h' : x < 4294967296) :
    Calls Tryd.prog 69 #[.int .u32 x, .int .u64 6] w fun e w' => e = .returned (.int .u32 (bits .or .u32 (x / 2 ^ 6) (x * 2 ^ (32 - 6) % 4294967296))) ∧ w' = w := by
  go_enter Tryd.func69, Tryd.ntmps69
  go_wp2
  go_ret
  exact ⟨rfl, rfl⟩
theorem rot7_calls (x : Int) (w : World) (h : 0 ≤ x) (h' : x < 4294967296) :
    Calls Tryd.prog 69 #[.int .u32 x, .int .u64 7] w fun e w' => e = .returned (.int .u32 (bits .or .u32 (x / 2 ^ 7) (x * 2 ^ (32 - 7) % 4294967296))) ∧ w' = w := by
  go_enter Tryd.func69, Tryd.ntmps69
  go_wp2
  go_ret
  exact ⟨rfl, rfl⟩
theorem rot11_calls (x : Int) (w : World) (h : 0 ≤ x) (h' : x < 4294967296) :
    Calls Tryd.prog 69 #[.int .u32 x, .int .u64 11] w fun e w' => e = .returned (.int .u32 (bits .or .u32 (x / 2 ^ 11) (x * 2 ^ (32 - 11) % 4294967296))) ∧ w' = w := by
  go_enter Tryd.func69, Tryd.ntmps69
  go_wp2
  go_ret
  exact ⟨rfl, rfl⟩
theorem rot13_calls (x : Int) (w : World) (h : 0 ≤ x) (h' : x < 4294967296) :
    Calls Tryd.prog 69 #[.int .u32 x, .int .u64 13] w fun e w' => e = .returned (.int .u32 (bits .or .u32 (x / 2 ^ 13) (x * 2 ^ (32 - 13) % 4294967296))) ∧ w' = w := by
  go_enter Tryd.func69, Tryd.ntmps69
  go_wp2
  go_ret
  exact ⟨rfl, rfl⟩
theorem rot17_calls (x : Int) (w : World) (h : 0 ≤ x) (h' : x < 4294967296) :
    Calls Tryd.prog 69 #[.int .u32 x, .int .u64 17] w fun e w' => e = .returned (.int .u32 (bits .or .u32 (x / 2 ^ 17) (x * 2 ^ (32 - 17) % 4294967296))) ∧ w' = w := by
  go_enter Tryd.func69, Tryd.ntmps69
  go_wp2
  go_ret
  exact ⟨rfl, rfl⟩
theorem rot18_calls (x : Int) (w : World) (h : 0 ≤ x) (h' : x < 4294967296) :
    Calls Tryd.prog 69 #[.int .u32 x, .int .u64 18] w fun e w' => e = .returned (.int .u32 (bits .or .u32 (x / 2 ^ 18) (x * 2 ^ (32 - 18) % 4294967296))) ∧ w' = w := by
  go_enter Tryd.func69, Tryd.ntmps69
  go_wp2
  go_ret
  exact ⟨rfl, rfl⟩
theorem rot19_calls (x : Int) (w : World) (h : 0 ≤ x) (h' : x < 4294967296) :
    Calls Tryd.prog 69 #[.int .u32 x, .int .u64 19] w fun e w' => e = .returned (.int .u32 (bits .or .u32 (x / 2 ^ 19) (x * 2 ^ (32 - 19) % 4294967296))) ∧ w' = w := by
  go_enter Tryd.func69, Tryd.ntmps69
  go_wp2
  go_ret
  exact ⟨rfl, rfl⟩
theorem rot22_calls (x : Int) (w : World) (h : 0 ≤ x) (h' : x < 4294967296) :
    Calls Tryd.prog 69 #[.int .u32 x, .int .u64 22] w fun e w' => e = .returned (.int .u32 (bits .or .u32 (x / 2 ^ 22) (x * 2 ^ (32 - 22) % 4294967296))) ∧ w' = w := by
  go_enter Tryd.func69, Tryd.ntmps69
  go_wp2
  go_ret
  exact ⟨rfl, rfl⟩
theorem rot25_calls (x : Int) (w : World) (h : 0 ≤ x) (h' : x < 4294967296) :
    Calls Tryd.prog 69 #[.int .u32 x, .int .u64 25] w fun e w' => e = .returned (.int .u32 (bits .or .u32 (x / 2 ^ 25) (x * 2 ^ (32 - 25) % 4294967296))) ∧ w' = w := by
  go_enter Tryd.func69, Tryd.ntmps69
  go_wp2
  go_ret
  exact ⟨rfl, rfl⟩
end Go.Proofs.YtlikinglgegclaaDoor
/- A block's words; a round; a block taken in: as functions of lists. -/
namespace Go.Proofs.YtlikinglgegclaaDoor
open Go.RowKit Go.Cour
/-- The numbers of the rounds. -/
def shaK : List Int := [1116352408, 1899447441, 3049323471, 3921009573, 961987163, 1508970993, 2453635748, 2870763221, 3624381080, 310598401, 607225278, 1426881987, 1925078388, 2162078206, 2614888103, 3248222580, 3835390401, 4022224774, 264347078, 604807628, 770255983, 1249150122, 1555081692, 1996064986, 2554220882, 2821834349, 2952996808, 3210313671, 3336571891, 3584528711, 113926993, 338241895, 666307205, 773529912, 1294757372, 1396182291, 1695183700, 1986661051, 2177026350, 2456956037, 2730485921, 2820302411, 3259730800, 3345764771, 3516065817, 3600352804, 4094571909, 275423344, 430227734, 506948616, 659060556, 883997877, 958139571, 1322822218, 1537002063, 1747873779, 1955562222, 2024104815, 2227730452, 2361852424, 2428436474, 2756734187, 3204031479, 3329325298]
/-- A block's word. -/
def word32 (b : List Int) (i : Nat) : Int := bits .or .u32 (bits .or .u32 (bits .or .u32 (rd b (4 * i) * 16777216) (rd b (4 * i + 1) * 65536)) (rd b (4 * i + 2) * 256)) (rd b (4 * i + 3))
def sig (a b : Nat) (d x : Int) : Int := bits .xor .u32 (bits .xor .u32 (rotr a x) (rotr b x)) (x / d)
def Sig (a b c : Nat) (x : Int) : Int := bits .xor .u32 (bits .xor .u32 (rotr a x) (rotr b x)) (rotr c x)
def schedW (w : List Int) (i : Nat) : Int := (rd w (i - 16) + sig 7 18 8 (rd w (i - 15)) + rd w (i - 7) + sig 17 19 1024 (rd w (i - 2))) % 4294967296
/-- The words so far: of the block. -/
def schedA (b : List Int) (n : Nat) : List Int := (List.range n).foldl (fun w i => w.set i (word32 b i)) (List.replicate 64 0)
/-- And those that come of them. -/
def schedB (b : List Int) (n : Nat) : List Int := (List.range n).foldl (fun w i => w.set (16 + i) (schedW w (16 + i))) (schedA b 16)
def sched (b : List Int) : List Int := schedB b 48
theorem schedA_succ (b : List Int) (n : Nat) : schedA b (n + 1) = (schedA b n).set n (word32 b n) := by simp [schedA, List.range_succ]
theorem schedB_succ (b : List Int) (n : Nat) : schedB b (n + 1) = (schedB b n).set (16 + n) (schedW (schedB b n) (16 + n)) := by simp [schedB, List.range_succ]
@[simp] theorem schedA_length (b : List Int) (n : Nat) : (schedA b n).length = 64 := by
  induction n with
  | zero => simp [schedA]
  | succ n ih => rw [schedA_succ]; simpa using ih
@[simp] theorem schedB_length (b : List Int) (n : Nat) : (schedB b n).length = 64 := by
  induction n with
  | zero => simp [schedB]
  | succ n ih => rw [schedB_succ]; simpa using ih
def W32 (x : Int) : Prop := 0 ≤ x ∧ x < 4294967296
theorem bits_W32 (op : BinOp) (x y : Int) : W32 (bits op .u32 x y) := ⟨bits_lo_u32 _ _ _, by have := bits_hi_u32 op x y; omega⟩
theorem mod_W32 (x : Int) : W32 (x % 4294967296) := ⟨Int.emod_nonneg _ (by decide), Int.emod_lt_of_pos _ (by decide)⟩
theorem rd_all {P : Int → Prop} {xs : List Int} (h : ∀ x ∈ xs, P x) (h0 : P 0) (i : Nat) : P (rd xs i) := by
  unfold rd
  rw [List.getD_eq_getElem?_getD]
  cases hi : xs[i]? with
  | none => exact h0
  | some x => exact h x (List.mem_of_getElem? hi)
theorem zero_W32 : W32 0 := ⟨by decide, by decide⟩
theorem word32_W32 (b : List Int) (i : Nat) : W32 (word32 b i) := bits_W32 _ _ _
theorem schedW_W32 (b : List Int) (i : Nat) : W32 (schedW b i) := mod_W32 _
theorem set_all {P : Int → Prop} {xs : List Int} {i : Nat} {y : Int} (h : ∀ x ∈ xs, P x) (hy : P y) : ∀ x ∈ xs.set i y, P x := fun x hx => by
  rcases List.mem_or_eq_of_mem_set hx with h1 | h1
  · exact h x h1
  · exact h1 ▸ hy
theorem schedA_W32 (b : List Int) (n : Nat) : ∀ x ∈ schedA b n, W32 x := by
  induction n with
  | zero => intro x hx; simp [schedA] at hx; rw [hx]; exact zero_W32
  | succ n ih => rw [schedA_succ]; exact set_all ih (word32_W32 _ _)
theorem schedB_W32 (b : List Int) (n : Nat) : ∀ x ∈ schedB b n, W32 x := by
  induction n with
  | zero => simpa [schedB] using schedA_W32 b 16
  | succ n ih => rw [schedB_succ]; exact set_all ih (schedW_W32 _ _)
theorem shaK_all : ∀ x ∈ shaK, W32 x := by unfold W32; decide
theorem shaK_W32 (i : Nat) : W32 (rd shaK i) := rd_all shaK_all zero_W32 i
/-- A round. -/
def oneS (s : List Int) (k w : Int) : Int := (rd s 7 + Sig 6 11 25 (rd s 4) + bits .xor .u32 (bits .and .u32 (rd s 4) (rd s 5)) (bits .and .u32 (bits .xor .u32 IntKind.u32.max (rd s 4)) (rd s 6)) + k + w)
def twoS (s : List Int) : Int := (Sig 2 13 22 (rd s 0) + bits .xor .u32 (bits .xor .u32 (bits .and .u32 (rd s 0) (rd s 1)) (bits .and .u32 (rd s 0) (rd s 2))) (bits .and .u32 (rd s 1) (rd s 2)))
def stepS (ws : List Int) (s : List Int) (i : Nat) : List Int :=
  [(oneS s (rd shaK i) (rd ws i) + twoS s) % 4294967296, rd s 0, rd s 1, rd s 2, (rd s 3 + oneS s (rd shaK i) (rd ws i)) % 4294967296, rd s 4, rd s 5, rd s 6]
def roundsS (b h : List Int) (n : Nat) : List Int := (List.range n).foldl (stepS (sched b)) h
theorem roundsS_succ (b h : List Int) (n : Nat) : roundsS b h (n + 1) = stepS (sched b) (roundsS b h n) n := by simp [roundsS, List.range_succ]
theorem roundsS_length (b h : List Int) (hl : h.length = 8) (n : Nat) : (roundsS b h n).length = 8 := by
  cases n with
  | zero => simpa [roundsS] using hl
  | succ n => rw [roundsS_succ]; rfl
theorem stepS_W32 {ws s : List Int} {i : Nat} (h : ∀ x ∈ s, W32 x) : ∀ x ∈ stepS ws s i, W32 x := fun x hx => by
  have r := fun j => rd_all h zero_W32 j
  simp only [stepS, List.mem_cons, List.not_mem_nil, or_false] at hx
  rcases hx with rfl | rfl | rfl | rfl | rfl | rfl | rfl | rfl <;> first | exact r _ | exact mod_W32 _
theorem roundsS_W32 (b h : List Int) (hh : ∀ x ∈ h, W32 x) (n : Nat) : ∀ x ∈ roundsS b h n, W32 x := by
  induction n with
  | zero => simpa [roundsS] using hh
  | succ n ih => rw [roundsS_succ]; exact stepS_W32 ih
/-- Some of the words laid on top of the others. -/
def topS (h s : List Int) (n : Nat) : List Int := (List.range n).foldl (fun x i => x.set i ((rd h i + rd s i) % 4294967296)) h
theorem topS_succ (h s : List Int) (n : Nat) : topS h s (n + 1) = (topS h s n).set n ((rd h n + rd s n) % 4294967296) := by simp [topS, List.range_succ]
@[simp] theorem topS_length (h s : List Int) (n : Nat) : (topS h s n).length = h.length := by
  induction n with
  | zero => rfl
  | succ n ih => rw [topS_succ]; simpa using ih
theorem topS_rd (h s : List Int) (n j : Nat) (hj : n ≤ j) : rd (topS h s n) j = rd h j := by
  induction n with
  | zero => rfl
  | succ n ih =>
    rw [topS_succ, rd_set', if_neg (by omega)]
    exact ih (by omega)
theorem topS_W32 (h s : List Int) (hh : ∀ x ∈ h, W32 x) (n : Nat) : ∀ x ∈ topS h s n, W32 x := by
  induction n with
  | zero => exact hh
  | succ n ih => rw [topS_succ]; exact set_all ih (mod_W32 _)
/-- A block taken in. -/
def shaBlock (h b : List Int) : List Int := topS h (roundsS b h 64) 8
theorem shaBlock_length (h b : List Int) : (shaBlock h b).length = h.length := topS_length _ _ _
theorem shaBlock_W32 (h b : List Int) (hh : ∀ x ∈ h, W32 x) : ∀ x ∈ shaBlock h b, W32 x := topS_W32 _ _ hh _
end Go.Proofs.YtlikinglgegclaaDoor
/- The stream: a word, a turn, a quarter of a round. -/
namespace Go.Proofs.YtlikinglgegclaaDoor
open Go.RowKit Go.Cour
/-- x turned to the left by k. -/
def rotl (k : Nat) (x : Int) : Int := bits .or .u32 (x * 2 ^ k % 4294967296) (x / 2 ^ (32 - k))
def qadd (xs : List Int) (a b : Nat) : List Int := xs.set a ((rd xs a + rd xs b) % 4294967296)
def qxor (k : Nat) (xs : List Int) (d a : Nat) : List Int := xs.set d (rotl k (bits .xor .u32 (rd xs d) (rd xs a)))
def quarter (xs : List Int) (a b c d : Nat) : List Int :=
  qxor 7 (qadd (qxor 8 (qadd (qxor 12 (qadd (qxor 16 (qadd xs a b) d a) c d) b c) a b) d a) c d) b c
@[simp] theorem qadd_length (xs : List Int) (a b : Nat) : (qadd xs a b).length = xs.length := by simp [qadd]
@[simp] theorem qxor_length (k : Nat) (xs : List Int) (a b : Nat) : (qxor k xs a b).length = xs.length := by simp [qxor]
@[simp] theorem quarter_length (xs : List Int) (a b c d : Nat) : (quarter xs a b c d).length = xs.length := by simp [quarter]
/-- All are words. -/
def words (xs : List Int) : Prop := ∀ i, 0 ≤ rd xs i ∧ rd xs i < 4294967296
theorem rd_set (xs : List Int) (i j : Nat) (x : Int) : rd (xs.set i x) j = if i = j ∧ j < xs.length then x else rd xs j := by
  unfold rd
  by_cases h : i = j
  · subst h
    by_cases hl : i < xs.length <;> simp [List.getElem?_set, hl]
  · simp [List.getElem?_set_ne h, h]
theorem words_set {xs : List Int} (h : words xs) (i : Nat) {x : Int} (h0 : 0 ≤ x) (h1 : x < 4294967296) : words (xs.set i x) := by
  intro j
  rw [rd_set]
  split
  · exact ⟨h0, h1⟩
  · exact h j
theorem bits_u32_bound (op : BinOp) (x y : Int) : 0 ≤ bits op .u32 x y ∧ bits op .u32 x y < 4294967296 :=
  ⟨(bits_within op .u32 x y).1, by have := (bits_within op .u32 x y).2; have e : IntKind.u32.max = 4294967295 := by decide
                                   omega⟩
theorem rotl_bound (k : Nat) (x : Int) : 0 ≤ rotl k x ∧ rotl k x < 4294967296 := bits_u32_bound _ _ _
theorem words_qadd {xs : List Int} (h : words xs) (a b : Nat) : words (qadd xs a b) := words_set h a (Int.emod_nonneg _ (by decide)) (Int.emod_lt_of_pos _ (by decide))
theorem words_qxor {xs : List Int} (h : words xs) (k a b : Nat) : words (qxor k xs a b) := words_set h a (rotl_bound _ _).1 (rotl_bound _ _).2
theorem words_quarter {xs : List Int} (h : words xs) (a b c d : Nat) : words (quarter xs a b c d) :=
  words_qxor (words_qadd (words_qxor (words_qadd (words_qxor (words_qadd (words_qxor (words_qadd h _ _) _ _ _) _ _) _ _ _) _ _) _ _ _) _ _) _ _ _
end Go.Proofs.YtlikinglgegclaaDoor
/- A word of four bytes. -/
namespace Go.Proofs.YtlikinglgegclaaDoor
open Go.RowKit Go.Cour
/-- Four bytes as a word. -/
def word4 (b0 b1 b2 b3 : Int) : Int := bits .or .u32 (bits .or .u32 (bits .or .u32 b0 (b1 * 256)) (b2 * 65536)) (b3 * 16777216)
def wordAt (xs : List Int) (i : Nat) : Int := word4 (rd xs i) (rd xs (i + 1)) (rd xs (i + 2)) (rd xs (i + 3))
/-- The first state: constants, the key's words, the counter, the nonce's. -/
def first0 (c : Int) : List Int := [1634760805, 857760878, 2036477234, 1797285236, 0, 0, 0, 0, 0, 0, 0, 0, c, 0, 0, 0]
def firstK (key : List Int) (c : Int) (n : Nat) : List Int := (List.range n).foldl (fun s i => s.set (4 + i) (wordAt key (4 * i))) (first0 c)
def firstN (key : List Int) (c : Int) (nonce : List Int) (n : Nat) : List Int := (List.range n).foldl (fun s i => s.set (13 + i) (wordAt nonce (4 * i))) (firstK key c 8)
def cols (s : List Int) (n : Nat) : List Int := (List.range n).foldl (fun s i => quarter s i (4 + i) (8 + i) (12 + i)) s
def diags (s : List Int) (n : Nat) : List Int := (List.range n).foldl (fun s i => quarter s i (4 + (i + 1) % 4) (8 + (i + 2) % 4) (12 + (i + 3) % 4)) s
def rounds (s : List Int) (n : Nat) : List Int := (List.range n).foldl (fun s _ => diags (cols s 4) 4) s
def outByte (s f : List Int) (i : Nat) : Int := ((rd s (i / 4) + rd f (i / 4)) % 4294967296 / 2 ^ (8 * (i % 4))) % 256
def outTo (s f : List Int) (n : Nat) : List Int := (List.range n).foldl (fun o i => o.set i (outByte s f i)) (List.replicate 64 0)
def block (key : List Int) (c : Int) (nonce : List Int) : List Int := outTo (rounds (firstN key c nonce 3) 10) (firstN key c nonce 3) 64
theorem info65 : (Tryd.prog.info? 153).map (·.size) = some 16 := by kernel_rfl
theorem arr65 : Tryd.prog.underlying 153 = some (.array 16 29) := by kernel_rfl
theorem info44 : (Tryd.prog.info? 142).map (·.size) = some 64 := by kernel_rfl
theorem arr44 : Tryd.prog.underlying 142 = some (.array 64 5) := by kernel_rfl
theorem foldl_succ {α : Type} (f : α → Nat → α) (s : α) (n : Nat) : (List.range (n + 1)).foldl f s = f ((List.range n).foldl f s) n := by
  rw [List.range_succ, List.foldl_append]; rfl
theorem firstK_succ (key : List Int) (c : Int) (n : Nat) : firstK key c (n + 1) = (firstK key c n).set (4 + n) (wordAt key (4 * n)) := foldl_succ _ _ _
theorem firstN_succ (key : List Int) (c : Int) (nonce : List Int) (n : Nat) : firstN key c nonce (n + 1) = (firstN key c nonce n).set (13 + n) (wordAt nonce (4 * n)) := foldl_succ _ _ _
theorem firstK_length (key : List Int) (c : Int) : ∀ n, (firstK key c n).length = 16
  | 0 => rfl
  | n + 1 => by rw [firstK_succ, List.length_set]; exact firstK_length key c n
theorem firstN_length (key : List Int) (c : Int) (nonce : List Int) : ∀ n, (firstN key c nonce n).length = 16
  | 0 => firstK_length key c 8
  | n + 1 => by rw [firstN_succ, List.length_set]; exact firstN_length key c nonce n
/-- What the blocks of a call of Block hold before its rounds. -/
structure BS (w wr : World) (key nonce first : List Int) : Prop where
  k : Blk wr w.heap.size 27 (ints .u8 key)
  n : Blk wr (w.heap.size + 1) 91 (ints .u8 nonce)
  r : Blk wr (w.heap.size + 1 + 1) 142 (ints .u8 (List.replicate 64 0))
  f : Blk wr (w.heap.size + 1 + 1 + 1) 153 (ints .u32 first)
  below : Below w.heap.size w wr
  size : wr.heap.size = w.heap.size + 1 + 1 + 1 + 1
theorem cols_succ (s : List Int) (n : Nat) : cols s (n + 1) = quarter (cols s n) n (4 + n) (8 + n) (12 + n) := foldl_succ _ _ _
theorem diags_succ (s : List Int) (n : Nat) : diags s (n + 1) = quarter (diags s n) n (4 + (n + 1) % 4) (8 + (n + 2) % 4) (12 + (n + 3) % 4) := foldl_succ _ _ _
theorem rounds_succ (s : List Int) (n : Nat) : rounds s (n + 1) = diags (cols (rounds s n) 4) 4 := foldl_succ _ _ _
theorem outTo_succ (s f : List Int) (n : Nat) : outTo s f (n + 1) = (outTo s f n).set n (outByte s f n) := foldl_succ _ _ _
theorem cols_zero (s : List Int) : cols s 0 = s := rfl
theorem diags_zero (s : List Int) : diags s 0 = s := rfl
theorem cols_length (s : List Int) : ∀ n, (cols s n).length = s.length
  | 0 => rfl
  | n + 1 => by rw [cols_succ, quarter_length]; exact cols_length s n
theorem diags_length (s : List Int) : ∀ n, (diags s n).length = s.length
  | 0 => rfl
  | n + 1 => by rw [diags_succ, quarter_length]; exact diags_length s n
theorem rounds_length (s : List Int) : ∀ n, (rounds s n).length = s.length
  | 0 => rfl
  | n + 1 => by rw [rounds_succ, diags_length, cols_length]; exact rounds_length s n
theorem outTo_length (s f : List Int) : ∀ n, (outTo s f n).length = 64
  | 0 => by simp [outTo]
  | n + 1 => by rw [outTo_succ, List.length_set]; exact outTo_length s f n
theorem words_cols {s : List Int} (h : words s) : ∀ n, words (cols s n)
  | 0 => h
  | n + 1 => by rw [cols_succ]; exact words_quarter (words_cols h n) _ _ _ _
theorem words_diags {s : List Int} (h : words s) : ∀ n, words (diags s n)
  | 0 => h
  | n + 1 => by rw [diags_succ]; exact words_quarter (words_diags h n) _ _ _ _
theorem words_rounds {s : List Int} (h : words s) : ∀ n, words (rounds s n)
  | 0 => h
  | n + 1 => by rw [rounds_succ]; exact words_diags (words_cols (words_rounds h n) 4) 4
theorem word4_bound (a b c d : Int) : 0 ≤ word4 a b c d ∧ word4 a b c d < 4294967296 := bits_u32_bound _ _ _
theorem words_first0 {c : Int} (hc : 0 ≤ c ∧ c < 4294967296) : words (first0 c) := by
  intro i
  by_cases h : i < 16
  · have : i = 0 ∨ i = 1 ∨ i = 2 ∨ i = 3 ∨ i = 4 ∨ i = 5 ∨ i = 6 ∨ i = 7 ∨ i = 8 ∨ i = 9 ∨ i = 10 ∨ i = 11 ∨ i = 12 ∨ i = 13 ∨ i = 14 ∨ i = 15 := by omega
    rcases this with rfl | rfl | rfl | rfl | rfl | rfl | rfl | rfl | rfl | rfl | rfl | rfl | rfl | rfl | rfl | rfl <;> simp [first0, rd] <;> omega
  · have : rd (first0 c) i = 0 := by unfold rd; rw [List.getD_eq_getElem?_getD, List.getElem?_eq_none (by simp [first0]; omega)]; rfl
    omega
theorem words_firstK (key : List Int) {c : Int} (hc : 0 ≤ c ∧ c < 4294967296) : ∀ n, words (firstK key c n)
  | 0 => words_first0 hc
  | n + 1 => by rw [firstK_succ]; exact words_set (words_firstK key hc n) _ (word4_bound _ _ _ _).1 (word4_bound _ _ _ _).2
theorem words_firstN (key : List Int) {c : Int} (hc : 0 ≤ c ∧ c < 4294967296) (nonce : List Int) : ∀ n, words (firstN key c nonce n)
  | 0 => words_firstK key hc 8
  | n + 1 => by rw [firstN_succ]; exact words_set (words_firstN key hc nonce n) _ (word4_bound _ _ _ _).1 (word4_bound _ _ _ _).2
/-- What they hold in its rounds. -/
structure BR (w wr : World) (G : Nat) (first s : List Int) : Prop where
  r : Blk wr (w.heap.size + 1 + 1) 142 (ints .u8 (List.replicate 64 0))
  f : Blk wr (w.heap.size + 1 + 1 + 1) 153 (ints .u32 first)
  s : Blk wr G 153 (ints .u32 s)
  below : Below w.heap.size w wr
  lt : w.heap.size + 1 + 1 + 1 < G
  size : wr.heap.size = G + 1
theorem BR.start {w wr : World} {key nonce F : List Int} (hS : BS w wr key nonce F) :
    BR w ((wr.alloc (.cells (ints .u32 (List.replicate 16 0)).toArray 153)).setRow wr.heap.size (ints .u32 F).toArray) wr.heap.size F F := by
  have hz := hS.size
  exact ⟨(hS.r.alloc _).setRowOther (by omega) _, (hS.f.alloc _).setRowOther (by omega) _, (Blk.new wr 153 _).setRow _, below_setRow (hS.below.alloc (by omega) _) (by omega) _, by omega, by simp⟩
theorem BR.quarter {w wr wx : World} {G : Nat} {first s s' : List Int} (h : BR w wr G first s) (hs : Blk wx G 153 (ints .u32 s')) (ho : Only G wr wx) : BR w wx G first s' :=
  ⟨h.r.only ho (by have := h.lt; omega), h.f.only ho (by have := h.lt; omega), hs, ho.below h.below (by have := h.lt; omega), h.lt, by rw [ho.size]; exact h.size⟩
/-- What they hold when the bytes are laid. -/
structure BO (w wr : World) (G H : Nat) (first s out : List Int) : Prop where
  r : Blk wr (w.heap.size + 1 + 1) 142 (ints .u8 (List.replicate 64 0))
  f : Blk wr (w.heap.size + 1 + 1 + 1) 153 (ints .u32 first)
  s : Blk wr G 153 (ints .u32 s)
  o : Blk wr H 142 (ints .u8 out)
  below : Below w.heap.size w wr
  lt : w.heap.size + 1 + 1 + 1 < G
  lt' : G < H
theorem BO.start {w wr : World} {G : Nat} {first s : List Int} (h : BR w wr G first s) : BO w (wr.alloc (.cells (ints .u8 (List.replicate 64 0)).toArray 142)) G wr.heap.size first s (outTo s first 0) :=
  ⟨h.r.alloc _, h.f.alloc _, h.s.alloc _, Blk.new wr 142 _, h.below.alloc (by have := h.size; have := h.lt; omega) _, h.lt, by have := h.size; omega⟩
theorem BO.next {w wr : World} {G H n : Nat} {first s : List Int} (h : BO w wr G H first s (outTo s first n)) : BO w (wr.setCell ⟨H, n, none⟩ (.int .u8 (outByte s first n))).drew G H first s (outTo s first (n + 1)) := by
  have h1 := h.lt
  have h2 := h.lt'
  refine ⟨(h.r.setOther (by simp; omega) _).drew, (h.f.setOther (by simp; omega) _).drew, (h.s.setOther (by simp; omega) _).drew, ?_, (h.below.setCell (by simp; omega) _).drew, h1, h2⟩
  rw [outTo_succ]; exact (h.o.setI n _).drew
theorem outByte_eq (s f : List Int) (n q r : Nat) (h : n = 4 * q + r) (hr : r < 4) : outByte s f n = ((rd s q + rd f q) % 4294967296 / 2 ^ (8 * r)) % 256 := by
  have e1 : n / 4 = q := by omega
  have e2 : n % 4 = r := by omega
  rw [outByte, e1, e2]
end Go.Proofs.YtlikinglgegclaaDoor
/- XOR: bytes with the stream's. -/
namespace Go.Proofs.YtlikinglgegclaaDoor
open Go.RowKit Go.Cour
attribute [local go_sem] max2_int min2_int
/-- The counter behind so many blocks. -/
def ctr (c : Int) (j : Nat) : Int := (c + j) % 4294967296
def xorByte (key : List Int) (c : Int) (nonce xs : List Int) (i : Nat) : Int := bits .xor .u8 (rd xs i) (rd (block key (ctr c (i / 64)) nonce) (i % 64))
def xorTo (key : List Int) (c : Int) (nonce xs : List Int) (n : Nat) : List Int := (List.range n).foldl (fun o i => o.set i (xorByte key c nonce xs i)) (List.replicate xs.length 0)
def xorStream (key : List Int) (c : Int) (nonce xs : List Int) : List Int := xorTo key c nonce xs xs.length
theorem xorTo_succ (key : List Int) (c : Int) (nonce xs : List Int) (n : Nat) : xorTo key c nonce xs (n + 1) = (xorTo key c nonce xs n).set n (xorByte key c nonce xs n) := foldl_succ _ _ _
theorem xorTo_length (key : List Int) (c : Int) (nonce xs : List Int) : ∀ n, (xorTo key c nonce xs n).length = xs.length
  | 0 => by simp [xorTo]
  | n + 1 => by rw [xorTo_succ, List.length_set]; exact xorTo_length key c nonce xs n
theorem xorStream_length (key : List Int) (c : Int) (nonce xs : List Int) : (xorStream key c nonce xs).length = xs.length := xorTo_length _ _ _ _ _
theorem ctr_bound (c : Int) (j : Nat) : 0 ≤ ctr c j ∧ ctr c j < 4294967296 := ⟨Int.emod_nonneg _ (by decide), Int.emod_lt_of_pos _ (by decide)⟩
theorem block_length (key : List Int) (c : Int) (nonce : List Int) : (block key c nonce).length = 64 := outTo_length _ _ _
theorem info23 : (Tryd.prog.info? 27).map (·.size) = some 32 := by kernel_rfl
theorem arr23 : Tryd.prog.underlying 27 = some (.array 32 5) := by kernel_rfl
theorem info24 : (Tryd.prog.info? 91).map (·.size) = some 12 := by kernel_rfl
theorem arr24 : Tryd.prog.underlying 91 = some (.array 12 5) := by kernel_rfl
/-- What the blocks of a call of XOR hold. -/
structure XS (w wr : World) (key nonce out : List Int) : Prop where
  k : Blk wr w.heap.size 27 (ints .u8 key)
  n : Blk wr (w.heap.size + 1) 91 (ints .u8 nonce)
  o : Blk wr (w.heap.size + 1 + 1) 5 (ints .u8 out)
  below : Below w.heap.size w wr
  size : w.heap.size + 1 + 1 < wr.heap.size
/-- In a block of the stream. -/
structure XI (w wr : World) (H : Nat) (key nonce out blk : List Int) : Prop extends XS w wr key nonce out where
  s : Blk wr H 142 (ints .u8 blk)
  lt : w.heap.size + 1 + 1 < H
theorem XI.start {w wr wx : World} {key nonce out blk : List Int} (h : XS w wr key nonce out) (hb : Below wr.heap.size wr wx) :
    XI w ((wx.alloc (.cells (ints .u8 (List.replicate 64 0)).toArray 142)).setRow wx.heap.size (ints .u8 blk).toArray) wx.heap.size key nonce out blk := by
  have h1 := h.size
  have h2 := hb.size
  refine ⟨⟨((h.k.belowAll hb).alloc _).setRowOther (by omega) _, ((h.n.belowAll hb).alloc _).setRowOther (by omega) _, ((h.o.belowAll hb).alloc _).setRowOther (by omega) _, ?_, by simp; omega⟩, (Blk.new wx 142 _).setRow _, by omega⟩
  exact below_setRow ((below_then h.below (by omega) hb).alloc (by omega) _) (by omega) _
theorem XI.next {w wr : World} {H : Nat} {key nonce out blk : List Int} (h : XI w wr H key nonce out blk) (i : Nat) (x : Int) :
    XI w (wr.setCell ⟨w.heap.size + 1 + 1, i, none⟩ (.int .u8 x)).drew H key nonce (out.set i x) blk := by
  have h1 := h.lt
  refine ⟨⟨(h.k.setOther (by simp; omega) _).drew, (h.n.setOther (by simp) _).drew, (h.o.setI i x).drew, (h.below.setCell (by simp; omega) _).drew, by simpa [World.setCell] using h.size⟩, (h.s.setOther (by simp; omega) _).drew, h1⟩
end Go.Proofs.YtlikinglgegclaaDoor
/- The reference's turn, its quarter of a round. -/
namespace Go.Proofs.YtlikinglgegclaaDoor
open Go.RowKit Go.Cour
theorem bits_or_comm (k : IntKind) (x y : Int) : bits .or k x y = bits .or k y x := by
  unfold bits
  simp only [BitVec.or_comm]
theorem rot16_calls (x : Int) (w : World) (h : 0 ≤ x) (h' : x < 4294967296) :
    Calls Tryd.prog 69 #[.int .u32 x, .int .u64 16] w fun e w' => e = .returned (.int .u32 (rotl 16 x)) ∧ w' = w := by
  have hr : bits .or .u32 (x / 65536) (x * 65536 % 4294967296) = rotl 16 x := by rw [bits_or_comm]; rfl
  have hr := hid hr
  go_enter Tryd.func69, Tryd.ntmps69
  go_wp2
  go_ret
  exact ⟨by rw [← hr.out]; rfl, rfl⟩
theorem rot20_calls (x : Int) (w : World) (h : 0 ≤ x) (h' : x < 4294967296) :
    Calls Tryd.prog 69 #[.int .u32 x, .int .u64 20] w fun e w' => e = .returned (.int .u32 (rotl 12 x)) ∧ w' = w := by
  have hr : bits .or .u32 (x / 1048576) (x * 4096 % 4294967296) = rotl 12 x := by rw [bits_or_comm]; rfl
  have hr := hid hr
  go_enter Tryd.func69, Tryd.ntmps69
  go_wp2
  go_ret
  exact ⟨by rw [← hr.out]; rfl, rfl⟩
theorem rot24_calls (x : Int) (w : World) (h : 0 ≤ x) (h' : x < 4294967296) :
    Calls Tryd.prog 69 #[.int .u32 x, .int .u64 24] w fun e w' => e = .returned (.int .u32 (rotl 8 x)) ∧ w' = w := by
  have hr : bits .or .u32 (x / 16777216) (x * 256 % 4294967296) = rotl 8 x := by rw [bits_or_comm]; rfl
  have hr := hid hr
  go_enter Tryd.func69, Tryd.ntmps69
  go_wp2
  go_ret
  exact ⟨by rw [← hr.out]; rfl, rfl⟩
theorem rot25R_calls (x : Int) (w : World) (h : 0 ≤ x) (h' : x < 4294967296) :
    Calls Tryd.prog 69 #[.int .u32 x, .int .u64 25] w fun e w' => e = .returned (.int .u32 (rotl 7 x)) ∧ w' = w := by
  have hr : bits .or .u32 (x / 33554432) (x * 128 % 4294967296) = rotl 7 x := by rw [bits_or_comm]; rfl
  have hr := hid hr
  go_enter Tryd.func69, Tryd.ntmps69
  go_wp2
  go_ret
  exact ⟨by rw [← hr.out]; rfl, rfl⟩
theorem zeroA16 : ((Tryd.prog.info? 153).bind (·.zero)).map (·.cells) = some (ints .u32 (List.replicate 16 0)).toArray := by kernel_rfl
set_option maxHeartbeats 4000000 in
set_option maxRecDepth 100000 in
theorem quarter1_calls (a b c d : Nat) (pa pb pc pd : Int) (xs : List Int) (w : World) (hx : xs.length = 16) (ha : a < 16) (hb : b < 16) (hc : c < 16) (hd : d < 16) (hw : words xs) (ea : pa = a) (eb : pb = b) (ec : pc = c) (ed : pd = d) :
    Calls Tryd.prog 103 #[.agg (ints .u32 xs).toArray, .int .i64 pa, .int .i64 pb, .int .i64 pc, .int .i64 pd] w fun e w' => e = .returned (.agg (ints .u32 (quarter xs a b c d)).toArray) ∧ Below w.heap.size w w' := by
  subst ea eb ec ed
  have ia : (a : Int) < 16 := by omega
  have ib : (b : Int) < 16 := by omega
  have ic : (c : Int) < 16 := by omega
  have id : (d : Int) < 16 := by omega
  obtain ⟨x0, HX⟩ : ∃ x, Hd (x = xs) := ⟨xs, hid rfl⟩
  have HL : Hd (x0.length = 16) := hid (by rw [HX.out]; exact hx)
  have HW : Hd (words x0) := hid (by rw [HX.out]; exact hw)
  clear hx hw
  rw [show ints .u32 xs = ints .u32 x0 by rw [HX.out]]
  go_enter Tryd.func103, Tryd.ntmps103
  go_wp2_with (first
    | (refine box_blk rfl 153 _ rfl _ rfl (ints .u32 x0) rfl ?_; intro g v1 hgz hb1 hB1 hs1)
    | (refine alloc_blk rfl 153 rfl _ rfl (ints .u32 (List.replicate 16 0)) zeroA16 ?_; intro g10 w0 hg10 hb10 hB2 hs2)
    | fail)
  have hg := hb1.belowAll hB2
  have hgne : Hd (g10 ≠ g) := hid (by have := hb1.lt; omega)
  have hgw : Hd (w.heap.size ≤ g ∧ w.heap.size ≤ g10) := hid (by have := hB1.size; omega)
  have hBel := below_then hB1 hB1.size hB2
  have HO : Only g w0 w0 := Only.refl g w0
  obtain ⟨wb, HE⟩ : ∃ v, Hd (v = w0) := ⟨w0, hid rfl⟩
  replace hb10 : Blk wb g10 153 (ints .u32 (List.replicate 16 0)) := by rw [HE.out]; exact hb10
  replace hBel : Below w.heap.size w wb := by rw [HE.out]; exact hBel
  replace HO : Only g wb w0 := by rw [HE.out]; exact HO
  clear HE hb1 hB1 hB2 hgz hg10 hs1 hs2
  -- region 0
  have cx := hg.cellI a (by have := HL.out; omega)
  have cy := hg.cellI b (by have := HL.out; omega)
  have fx := hg.frozen a
  refine wp_region_still_tail 9 (by kernel_rfl) (by kernel_rfl) ?_
  simp only [List.take_succ_cons, List.take_zero, List.drop_succ_cons, List.drop_zero]
  change wpStill _ _ (World.drew _) (fun a' => wpList _ _ _ _ a' (World.drew _)) _ _
  repeat still_step
  refine wpStill_nil ?_
  change wpList _ _ _ _ _ _
  go_wp2_with fail
  replace hg : Blk _ g 153 (ints .u32 (qadd x0 a b)) := (hg.setI a ((rd x0 a + rd x0 b) % 4294967296)).drew
  replace HO := (HO.setCell a (.int .u32 ((rd x0 a + rd x0 b) % 4294967296))).drew
  replace HW : Hd (words (qadd x0 a b)) := hid (words_qadd HW.out _ _)
  replace HL : Hd ((qadd x0 a b).length = 16) := hid (by have := HL.out; simpa using this)
  replace HX : Hd (qadd x0 a b = qadd xs a b) := hid (by rw [HX.out])
  clear cx cy fx
  generalize (w0.setCell { block := g, off := a } (.int .u32 ((rd x0 a + rd x0 b) % 4294967296))).drew = w1 at hg HO ⊢
  generalize hx1 : qadd x0 a b = x1 at hg HW HL HX
  clear hx1
  -- region 1
  have cx := hg.cellI d (by have := HL.out; omega)
  have cy := hg.cellI a (by have := HL.out; omega)
  have fx := hg.frozen d
  refine wp_region_still_tail 10 (by kernel_rfl) (by kernel_rfl) ?_
  simp only [List.take_succ_cons, List.take_zero, List.drop_succ_cons, List.drop_zero]
  change wpStill _ _ (World.drew _) (fun a' => wpList _ _ _ _ a' (World.drew _)) _ _
  repeat still_step
  still_call (rot16_calls _ _ (bits_u32_bound _ _ _).1 (bits_u32_bound _ _ _).2)
  repeat still_step
  refine wpStill_nil ?_
  change wpList _ _ _ _ _ _
  go_wp2_with fail
  replace hg : Blk _ g 153 (ints .u32 (qxor 16 x1 d a)) := (hg.setI d (rotl 16 (bits .xor .u32 (rd x1 d) (rd x1 a)))).drew
  replace HO := (HO.setCell d (.int .u32 (rotl 16 (bits .xor .u32 (rd x1 d) (rd x1 a))))).drew
  replace HW : Hd (words (qxor 16 x1 d a)) := hid (words_qxor HW.out _ _ _)
  replace HL : Hd ((qxor 16 x1 d a).length = 16) := hid (by have := HL.out; simpa using this)
  replace HX : Hd (qxor 16 x1 d a = qxor 16 (qadd xs a b) d a) := hid (by rw [HX.out])
  clear cx cy fx
  generalize (w1.setCell { block := g, off := d } (.int .u32 (rotl 16 (bits .xor .u32 (rd x1 d) (rd x1 a))))).drew = w2 at hg HO ⊢
  generalize hx1 : qxor 16 x1 d a = x2 at hg HW HL HX
  clear hx1
  -- region 2
  have cx := hg.cellI c (by have := HL.out; omega)
  have cy := hg.cellI d (by have := HL.out; omega)
  have fx := hg.frozen c
  refine wp_region_still_tail 9 (by kernel_rfl) (by kernel_rfl) ?_
  simp only [List.take_succ_cons, List.take_zero, List.drop_succ_cons, List.drop_zero]
  change wpStill _ _ (World.drew _) (fun a' => wpList _ _ _ _ a' (World.drew _)) _ _
  repeat still_step
  refine wpStill_nil ?_
  change wpList _ _ _ _ _ _
  go_wp2_with fail
  replace hg : Blk _ g 153 (ints .u32 (qadd x2 c d)) := (hg.setI c ((rd x2 c + rd x2 d) % 4294967296)).drew
  replace HO := (HO.setCell c (.int .u32 ((rd x2 c + rd x2 d) % 4294967296))).drew
  replace HW : Hd (words (qadd x2 c d)) := hid (words_qadd HW.out _ _)
  replace HL : Hd ((qadd x2 c d).length = 16) := hid (by have := HL.out; simpa using this)
  replace HX : Hd (qadd x2 c d = qadd (qxor 16 (qadd xs a b) d a) c d) := hid (by rw [HX.out])
  clear cx cy fx
  generalize (w2.setCell { block := g, off := c } (.int .u32 ((rd x2 c + rd x2 d) % 4294967296))).drew = w3 at hg HO ⊢
  generalize hx1 : qadd x2 c d = x3 at hg HW HL HX
  clear hx1
  -- region 3
  have cx := hg.cellI b (by have := HL.out; omega)
  have cy := hg.cellI c (by have := HL.out; omega)
  have fx := hg.frozen b
  refine wp_region_still_tail 10 (by kernel_rfl) (by kernel_rfl) ?_
  simp only [List.take_succ_cons, List.take_zero, List.drop_succ_cons, List.drop_zero]
  change wpStill _ _ (World.drew _) (fun a' => wpList _ _ _ _ a' (World.drew _)) _ _
  repeat still_step
  still_call (rot20_calls _ _ (bits_u32_bound _ _ _).1 (bits_u32_bound _ _ _).2)
  repeat still_step
  refine wpStill_nil ?_
  change wpList _ _ _ _ _ _
  go_wp2_with fail
  replace hg : Blk _ g 153 (ints .u32 (qxor 12 x3 b c)) := (hg.setI b (rotl 12 (bits .xor .u32 (rd x3 b) (rd x3 c)))).drew
  replace HO := (HO.setCell b (.int .u32 (rotl 12 (bits .xor .u32 (rd x3 b) (rd x3 c))))).drew
  replace HW : Hd (words (qxor 12 x3 b c)) := hid (words_qxor HW.out _ _ _)
  replace HL : Hd ((qxor 12 x3 b c).length = 16) := hid (by have := HL.out; simpa using this)
  replace HX : Hd (qxor 12 x3 b c = qxor 12 (qadd (qxor 16 (qadd xs a b) d a) c d) b c) := hid (by rw [HX.out])
  clear cx cy fx
  generalize (w3.setCell { block := g, off := b } (.int .u32 (rotl 12 (bits .xor .u32 (rd x3 b) (rd x3 c))))).drew = w4 at hg HO ⊢
  generalize hx1 : qxor 12 x3 b c = x4 at hg HW HL HX
  clear hx1
  -- region 4
  have cx := hg.cellI a (by have := HL.out; omega)
  have cy := hg.cellI b (by have := HL.out; omega)
  have fx := hg.frozen a
  refine wp_region_still_tail 9 (by kernel_rfl) (by kernel_rfl) ?_
  simp only [List.take_succ_cons, List.take_zero, List.drop_succ_cons, List.drop_zero]
  change wpStill _ _ (World.drew _) (fun a' => wpList _ _ _ _ a' (World.drew _)) _ _
  repeat still_step
  refine wpStill_nil ?_
  change wpList _ _ _ _ _ _
  go_wp2_with fail
  replace hg : Blk _ g 153 (ints .u32 (qadd x4 a b)) := (hg.setI a ((rd x4 a + rd x4 b) % 4294967296)).drew
  replace HO := (HO.setCell a (.int .u32 ((rd x4 a + rd x4 b) % 4294967296))).drew
  replace HW : Hd (words (qadd x4 a b)) := hid (words_qadd HW.out _ _)
  replace HL : Hd ((qadd x4 a b).length = 16) := hid (by have := HL.out; simpa using this)
  replace HX : Hd (qadd x4 a b = qadd (qxor 12 (qadd (qxor 16 (qadd xs a b) d a) c d) b c) a b) := hid (by rw [HX.out])
  clear cx cy fx
  generalize (w4.setCell { block := g, off := a } (.int .u32 ((rd x4 a + rd x4 b) % 4294967296))).drew = w5 at hg HO ⊢
  generalize hx1 : qadd x4 a b = x5 at hg HW HL HX
  clear hx1
  -- region 5
  have cx := hg.cellI d (by have := HL.out; omega)
  have cy := hg.cellI a (by have := HL.out; omega)
  have fx := hg.frozen d
  refine wp_region_still_tail 10 (by kernel_rfl) (by kernel_rfl) ?_
  simp only [List.take_succ_cons, List.take_zero, List.drop_succ_cons, List.drop_zero]
  change wpStill _ _ (World.drew _) (fun a' => wpList _ _ _ _ a' (World.drew _)) _ _
  repeat still_step
  still_call (rot24_calls _ _ (bits_u32_bound _ _ _).1 (bits_u32_bound _ _ _).2)
  repeat still_step
  refine wpStill_nil ?_
  change wpList _ _ _ _ _ _
  go_wp2_with fail
  replace hg : Blk _ g 153 (ints .u32 (qxor 8 x5 d a)) := (hg.setI d (rotl 8 (bits .xor .u32 (rd x5 d) (rd x5 a)))).drew
  replace HO := (HO.setCell d (.int .u32 (rotl 8 (bits .xor .u32 (rd x5 d) (rd x5 a))))).drew
  replace HW : Hd (words (qxor 8 x5 d a)) := hid (words_qxor HW.out _ _ _)
  replace HL : Hd ((qxor 8 x5 d a).length = 16) := hid (by have := HL.out; simpa using this)
  replace HX : Hd (qxor 8 x5 d a = qxor 8 (qadd (qxor 12 (qadd (qxor 16 (qadd xs a b) d a) c d) b c) a b) d a) := hid (by rw [HX.out])
  clear cx cy fx
  generalize (w5.setCell { block := g, off := d } (.int .u32 (rotl 8 (bits .xor .u32 (rd x5 d) (rd x5 a))))).drew = w6 at hg HO ⊢
  generalize hx1 : qxor 8 x5 d a = x6 at hg HW HL HX
  clear hx1
  -- region 6
  have cx := hg.cellI c (by have := HL.out; omega)
  have cy := hg.cellI d (by have := HL.out; omega)
  have fx := hg.frozen c
  refine wp_region_still_tail 9 (by kernel_rfl) (by kernel_rfl) ?_
  simp only [List.take_succ_cons, List.take_zero, List.drop_succ_cons, List.drop_zero]
  change wpStill _ _ (World.drew _) (fun a' => wpList _ _ _ _ a' (World.drew _)) _ _
  repeat still_step
  refine wpStill_nil ?_
  change wpList _ _ _ _ _ _
  go_wp2_with fail
  replace hg : Blk _ g 153 (ints .u32 (qadd x6 c d)) := (hg.setI c ((rd x6 c + rd x6 d) % 4294967296)).drew
  replace HO := (HO.setCell c (.int .u32 ((rd x6 c + rd x6 d) % 4294967296))).drew
  replace HW : Hd (words (qadd x6 c d)) := hid (words_qadd HW.out _ _)
  replace HL : Hd ((qadd x6 c d).length = 16) := hid (by have := HL.out; simpa using this)
  replace HX : Hd (qadd x6 c d = qadd (qxor 8 (qadd (qxor 12 (qadd (qxor 16 (qadd xs a b) d a) c d) b c) a b) d a) c d) := hid (by rw [HX.out])
  clear cx cy fx
  generalize (w6.setCell { block := g, off := c } (.int .u32 ((rd x6 c + rd x6 d) % 4294967296))).drew = w7 at hg HO ⊢
  generalize hx1 : qadd x6 c d = x7 at hg HW HL HX
  clear hx1
  -- region 7
  have cx := hg.cellI b (by have := HL.out; omega)
  have cy := hg.cellI c (by have := HL.out; omega)
  have fx := hg.frozen b
  refine wp_region_still_tail 10 (by kernel_rfl) (by kernel_rfl) ?_
  simp only [List.take_succ_cons, List.take_zero, List.drop_succ_cons, List.drop_zero]
  change wpStill _ _ (World.drew _) (fun a' => wpList _ _ _ _ a' (World.drew _)) _ _
  repeat still_step
  still_call (rot25R_calls _ _ (bits_u32_bound _ _ _).1 (bits_u32_bound _ _ _).2)
  repeat still_step
  refine wpStill_nil ?_
  change wpList _ _ _ _ _ _
  have hgL : Blk _ g 153 (ints .u32 (qxor 7 x7 b c)) := (hg.setI b (rotl 7 (bits .xor .u32 (rd x7 b) (rd x7 c)))).drew
  have hbL := hb10.only ((HO.setCell b (.int .u32 (rotl 7 (bits .xor .u32 (rd x7 b) (rd x7 c))))).drew) hgne.out
  have hlL : (ints .u32 (qxor 7 x7 b c)).length = 16 := by have := HL.out; simpa using this
  go_wp2_with (first
    | (refine load_blk rfl 153 _ rfl g rfl 153 _ hgL 16 29 arr65 hlL info65 ?_)
    | (refine store_blk rfl 153 _ _ rfl g10 (ints .u32 (qxor 7 x7 b c)) rfl rfl 153 _ hbL 16 info65 hlL (by simp [ints]) (ints_one _ _) ?_)
    | fail)
  clear hgL hbL hlL
  replace hg : Blk _ g 153 (ints .u32 (qxor 7 x7 b c)) := (hg.setI b (rotl 7 (bits .xor .u32 (rd x7 b) (rd x7 c)))).drew
  replace HO := (HO.setCell b (.int .u32 (rotl 7 (bits .xor .u32 (rd x7 b) (rd x7 c))))).drew
  replace HW : Hd (words (qxor 7 x7 b c)) := hid (words_qxor HW.out _ _ _)
  replace HL : Hd ((qxor 7 x7 b c).length = 16) := hid (by have := HL.out; simpa using this)
  replace HX : Hd (qxor 7 x7 b c = qxor 7 (qadd (qxor 8 (qadd (qxor 12 (qadd (qxor 16 (qadd xs a b) d a) c d) b c) a b) d a) c d) b c) := hid (by rw [HX.out])
  clear cx cy fx
  generalize (w7.setCell { block := g, off := b } (.int .u32 (rotl 7 (bits .xor .u32 (rd x7 b) (rd x7 c))))).drew = w8 at hg HO ⊢
  generalize hx1 : qxor 7 x7 b c = x8 at hg HW HL HX
  clear hx1
  have hb10e := hb10.only HO hgne.out
  have hl8 : (ints .u32 x8).length = 16 := by simpa using HL.out
  refine bodyPost_ret (results_blk rfl _ _ g10 153 _ 16 29 rfl (hb10e.setRow (ints .u32 x8)) arr65 hl8 info65) rfl ?_
  exact ⟨by rw [show quarter xs a b c d = x8 from HX.out.symm], below_setRow (hBel.trans ⟨HO.os, HO.tape, HO.output, by rw [HO.size]; exact Nat.le_refl _, fun k hk => HO.block k (by have := hgw.out; omega)⟩) hgw.out.2 _⟩
end Go.Proofs.YtlikinglgegclaaDoor
/- The reference's block of the stream. -/
namespace Go.Proofs.YtlikinglgegclaaDoor
open Go.RowKit Go.Cour
set_option maxHeartbeats 1000000 in
set_option maxRecDepth 100000 in
theorem word1_calls (g o c : Nat) (b0 b1 b2 b3 : Int) (w : World)
    (h0 : w.cell? ⟨g, o, none⟩ = some (.int .u8 b0)) (h1 : w.cell? ⟨g, o + 1, none⟩ = some (.int .u8 b1)) (h2 : w.cell? ⟨g, o + 2, none⟩ = some (.int .u8 b2)) (h3 : w.cell? ⟨g, o + 3, none⟩ = some (.int .u8 b3))
    (r0 : 0 ≤ b0 ∧ b0 < 256) (r1 : 0 ≤ b1 ∧ b1 < 256) (r2 : 0 ≤ b2 ∧ b2 < 256) (r3 : 0 ≤ b3 ∧ b3 < 256) :
    Calls Tryd.prog 102 #[.slice (some ⟨g, o, none⟩) 4 c] w fun e w' => e = .returned (.int .u32 (word4 b0 b1 b2 b3)) ∧ ∃ m, w' = w.drewN m := by
  go_enter Tryd.func102, Tryd.ntmps102
  go_wp2
  go_quiet (fail)
  go_wp2
  go_ret
  exact ⟨rfl, _, rfl⟩
theorem word1B_calls (g i c : Nat) (t : TypeId) (xs : List Int) (w : World) (hg : Blk w g t (ints .u8 xs)) (hi : i + 3 < xs.length) (r : bytesOk xs) :
    Calls Tryd.prog 102 #[.slice (some ⟨g, i, none⟩) 4 c] w fun e w' => e = .returned (.int .u32 (wordAt xs i)) ∧ ∃ m, w' = w.drewN m :=
  word1_calls g i c _ _ _ _ w (hg.cellI i (by omega)) (hg.cellI _ (by omega)) (hg.cellI _ (by omega)) (hg.cellI _ (by omega)) (r _) (r _) (r _) (r _)
theorem firstK_ctr (key : List Int) (c : Int) : ∀ n, n ≤ 8 → (firstK key 0 n).set 12 c = firstK key c n
  | 0, _ => rfl
  | n + 1, h => by rw [firstK_succ, firstK_succ, ← firstK_ctr key c n (by omega), List.set_comm _ _ (by omega)]
/-- What the blocks of a call hold. -/
structure RB (w wr : World) (g3 g5 g6 g7 : Nat) (key nonce first : List Int) : Prop where
  k : Blk wr g3 27 (ints .u8 key)
  n : Blk wr g5 91 (ints .u8 nonce)
  r : Blk wr g6 142 (ints .u8 (List.replicate 64 0))
  f : Blk wr g7 153 (ints .u32 first)
  bel : Below w.heap.size w wr
theorem RB.drewN {w wr : World} {g3 g5 g6 g7 : Nat} {key nonce first : List Int} (h : RB w wr g3 g5 g6 g7 key nonce first) (n : Nat) : RB w (wr.drewN n) g3 g5 g6 g7 key nonce first := ⟨h.k.drewN n, h.n.drewN n, h.r.drewN n, h.f.drewN n, below_drewN h.bel n⟩
theorem RB.set {w wr : World} {g3 g5 g6 g7 : Nat} {key nonce first : List Int} (h : RB w wr g3 g5 g6 g7 key nonce first) (h3 : g3 < g7) (h5 : g5 < g7) (h6 : g6 < g7) (hw : w.heap.size ≤ g7) (i : Nat) (x : Int) :
    RB w (wr.setCell ⟨g7, i, none⟩ (.int .u32 x)) g3 g5 g6 g7 key nonce (first.set i x) :=
  ⟨h.k.setOther (by simp; omega) _, h.n.setOther (by simp; omega) _, h.r.setOther (by simp; omega) _, h.f.setI i x, h.bel.setCell (by simp; omega) _⟩
theorem RB.below {w wr wx : World} {g3 g5 g6 g7 : Nat} {key nonce first : List Int} (h : RB w wr g3 g5 g6 g7 key nonce first) (hb : Below wr.heap.size wr wx) : RB w wx g3 g5 g6 g7 key nonce first :=
  ⟨h.k.belowAll hb, h.n.belowAll hb, h.r.belowAll hb, h.f.belowAll hb, below_then h.bel h.bel.size hb⟩
theorem RB.row {w wr : World} {g3 g5 g6 g7 g : Nat} {key nonce first : List Int} (h : RB w wr g3 g5 g6 g7 key nonce first) (h3 : g3 < g) (h5 : g5 < g) (h6 : g6 < g) (h7 : g7 < g) (hw : w.heap.size ≤ g) (cs : Array Value) :
    RB w (wr.setRow g cs) g3 g5 g6 g7 key nonce first :=
  ⟨h.k.setRowOther (by omega) _, h.n.setRowOther (by omega) _, h.r.setRowOther (by omega) _, h.f.setRowOther (by omega) _, below_setRow h.bel hw _⟩
theorem RB.setN {w wr : World} {g3 g5 g6 g7 : Nat} {key nonce first : List Int} (h : RB w wr g3 g5 g6 g7 key nonce first) (h3 : g3 < g7) (h5 : g5 < g7) (h6 : g6 < g7) (hw : w.heap.size ≤ g7) (i : Nat) (x : Int) (m : Nat) :
    RB w ((wr.drewN m).setCell ⟨g7, i, none⟩ (.int .u32 x)) g3 g5 g6 g7 key nonce (first.set i x) := (h.drewN m).set h3 h5 h6 hw i x
theorem sliceKey1 (w : World) (g i : Nat) (h : i < 8) :
    (Instr.sliceAt 27 (.pointer (some ⟨g, 0, none⟩)) (some (.int .i64 (4 * (i : Int)))) (some (.int .i64 (4 * (i : Int) + 4))) none).run Tryd.prog w = .ok (.slice (some ⟨g, 4 * i, none⟩) 4 (32 - 4 * i)) w := by
  have ha : Tryd.prog.arrayLen 27 = 32 := by kernel_rfl
  have hs : (sizeOf (Tryd.prog.elem 27)).run Tryd.prog w = .ok 1 w := by kernel_rfl
  rw [run_sliceAt_array_lh (P := Tryd.prog) w 27 ⟨g, 0, none⟩ (by kernel_rfl) .i64 .i64 _ _ (by omega) (by omega) (by rw [ha]; omega), hs, ha]
  have e1 : (4 * (i : Int)).toNat = 4 * i := by omega
  have e2 : (4 * (i : Int) + 4).toNat = 4 * i + 4 := by omega
  rw [e1, e2]
  simp only [Result.andThen, slicedAt]
  rw [if_neg (by omega), add_lit, Nat.mul_one, Nat.zero_add, show 4 * i + 4 - 4 * i = 4 by omega]
theorem sliceNonce1 (w : World) (g i : Nat) (h : i < 3) :
    (Instr.sliceAt 91 (.pointer (some ⟨g, 0, none⟩)) (some (.int .i64 (4 * (i : Int)))) (some (.int .i64 (4 * (i : Int) + 4))) none).run Tryd.prog w = .ok (.slice (some ⟨g, 4 * i, none⟩) 4 (12 - 4 * i)) w := by
  have ha : Tryd.prog.arrayLen 91 = 12 := by kernel_rfl
  have hs : (sizeOf (Tryd.prog.elem 91)).run Tryd.prog w = .ok 1 w := by kernel_rfl
  rw [run_sliceAt_array_lh (P := Tryd.prog) w 91 ⟨g, 0, none⟩ (by kernel_rfl) .i64 .i64 _ _ (by omega) (by omega) (by rw [ha]; omega), hs, ha]
  have e1 : (4 * (i : Int)).toNat = 4 * i := by omega
  have e2 : (4 * (i : Int) + 4).toNat = 4 * i + 4 := by omega
  rw [e1, e2]
  simp only [Result.andThen, slicedAt]
  rw [if_neg (by omega), add_lit, Nat.mul_one, Nat.zero_add, show 4 * i + 4 - 4 * i = 4 by omega]
/-- What they hold in the rounds. -/
structure RR (w wr : World) (g6 g7 g10 : Nat) (first s : List Int) : Prop where
  r : Blk wr g6 142 (ints .u8 (List.replicate 64 0))
  f : Blk wr g7 153 (ints .u32 first)
  s : Blk wr g10 153 (ints .u32 s)
  bel : Below w.heap.size w wr
theorem RR.next {w wr wx : World} {g6 g7 g10 : Nat} {first s : List Int} (h : RR w wr g6 g7 g10 first s) (hb : Below wr.heap.size wr wx) (hz : w.heap.size ≤ g6 ∧ g6 < g7 ∧ g7 < g10) (s' : List Int) :
    RR w (wx.setRow g10 (ints .u32 s').toArray) g6 g7 g10 first s' :=
  ⟨(h.r.belowAll hb).setRowOther (by omega) _, (h.f.belowAll hb).setRowOther (by omega) _, (h.s.belowAll hb).setRow _, below_setRow (below_then h.bel h.bel.size hb) (by omega) _⟩
/-- What they hold when the bytes are laid. -/
structure RO (w wr : World) (g6 g7 g10 g14 : Nat) (first s out : List Int) : Prop extends RR w wr g6 g7 g10 first s where
  o : Blk wr g14 142 (ints .u8 out)
theorem RO.next {w wr : World} {g6 g7 g10 g14 : Nat} {first s out : List Int} (h : RO w wr g6 g7 g10 g14 first s out) (hz : w.heap.size ≤ g6 ∧ g6 < g7 ∧ g7 < g10 ∧ g10 < g14) (i : Nat) (x : Int) :
    RO w (wr.setCell ⟨g14, i, none⟩ (.int .u8 x)).drew g6 g7 g10 g14 first s (out.set i x) :=
  ⟨⟨(h.r.setOther (by simp; omega) _).drew, (h.f.setOther (by simp; omega) _).drew, (h.s.setOther (by simp; omega) _).drew, (h.bel.setCell (by simp; omega) _).drew⟩, (h.o.setI i x).drew⟩
set_option maxHeartbeats 8000000 in
set_option maxRecDepth 100000 in
theorem block1_calls (key nonce : List Int) (c : Int) (w : World) (hk : key.length = 32) (hn : nonce.length = 12) (rk : bytesOk key) (rn : bytesOk nonce) (hc : 0 ≤ c ∧ c < 4294967296) :
    Calls Tryd.prog 89 #[.agg (ints .u8 key).toArray, .int .u32 c, .agg (ints .u8 nonce).toArray] w fun e w' => e = .returned (.agg (ints .u8 (block key c nonce)).toArray) ∧ Below w.heap.size w w' := by
  have HBL : Hd (outTo (rounds (firstN key c nonce 3) 10) (firstN key c nonce 3) 64 = block key c nonce) := hid rfl
  have HW : Hd (words (firstN key c nonce 3)) := hid (words_firstN key hc nonce 3)
  have HK := hid hk
  have HN := hid hn
  have HC := hid hc
  clear hk hn hc
  go_enter Tryd.func89, Tryd.ntmps89
  go_wp2_with (first
    | (refine box_blk rfl 27 _ rfl _ rfl (ints .u8 key) rfl ?_; intro g3 w1 hg3 hb3 hB1 hs1)
    | (refine box_blk rfl 91 _ rfl _ rfl (ints .u8 nonce) rfl ?_; intro g5 w2 hg5 hb5 hB2 hs2)
    | (refine alloc_blk rfl 142 rfl _ rfl (ints .u8 (List.replicate 64 0)) (by kernel_rfl) ?_; intro g6 w3 hg6 hb6 hB3 hs3)
    | (refine build_to rfl 153 _ rfl (ints .u32 (first0 0)).toArray (by kernel_rfl) ?_)
    | (refine alloc_blk rfl 153 rfl _ rfl (ints .u32 (List.replicate 16 0)) zeroA16 ?_; intro g7 w4 hg7 hb7 hB4 hs4)
    | (refine store_blk rfl 153 _ _ rfl g7 (ints .u32 (first0 0)) rfl rfl 153 _ hb7 16 info65 (by simp [ints, first0]) (by simp [ints]) (ints_one _ _) ?_)
    | fail)
  have hz3 : Hd (w.heap.size ≤ g3 ∧ w.heap.size ≤ g6 ∧ g3 < g5 ∧ g5 < g6 ∧ g6 < g7) := hid (by omega)
  have hR0 : RB w (w4.setRow g7 (ints .u32 (first0 0)).toArray) g3 g5 g6 g7 key nonce (firstK key 0 0) := by
    have hz := hz3.out
    refine ⟨?_, ?_, ?_, hb7.setRow _, below_setRow (below_then (below_then (below_then hB1 hB1.size hB2) (by omega) hB3) (by omega) hB4) (by omega) _⟩
    · exact (((hb3.belowAll hB2).belowAll hB3).belowAll hB4).setRowOther (by omega) _
    · exact ((hb5.belowAll hB3).belowAll hB4).setRowOther (by omega) _
    · exact (hb6.belowAll hB4).setRowOther (by omega) _
  clear hb3 hb5 hb6 hb7 hB1 hB2 hB3 hB4 hg3 hg5 hg6 hg7 hs1 hs2 hs3 hs4
  generalize w4.setRow g7 (ints .u32 (first0 0)).toArray = w5 at *
  go_loopg [8] 9 (fun kq v8 wr => ∃ i : Nat, i ≤ 8 ∧ v8 = .int .i64 i ∧ Hd (kq + i = 9) ∧ RB w wr g3 g5 g6 g7 key nonce (firstK key 0 i))
  case atStart => exact ⟨0, by omega, rfl, hid (by omega), hR0⟩
  case round =>
    clear hR0
    obtain ⟨i, hi, rfl, hq, hS⟩ := hrel
    by_cases hlt : i < 8
    · have hfc := hS.f.cellI (4 + i) (by rw [firstK_length]; omega)
      have hff := hS.f.frozen (4 + i)
      have hsl := sliceKey1 wr g3 i hlt
      have hz := hid hz3.out
      go_wp2_with (first
        | (go_at_call 102; refine (word1B_calls g3 (4 * i) (32 - 4 * i) _ key _ hS.k (by have := HK.out; omega) rk).mono ?_; rintro e w' ⟨rfl, m, rfl⟩; replace hfc : (wr.drewN m).cell? ⟨g7, 4 + i, none⟩ = _ := hfc; replace hff : (wr.drewN m).frozen? ⟨g7, 4 + i, none⟩ = _ := hff)
        | fail)
      go_roundg (gk - 1)
      case measure => have := hq.out; omega
      case rel => exact ⟨i + 1, by omega, by go_num, hid (by have := hq.out; omega), by rw [firstK_succ]; exact hS.setN (by have := hz.out; omega) (by have := hz.out; omega) (by have := hz.out; omega) (by have := hz.out; omega) (4 + i) _ m⟩
    · obtain rfl : i = 8 := by omega
      clear hq hi hlt
      have hfc := hS.f.cellI 12 (by rw [firstK_length]; omega)
      have hff := hS.f.frozen 12
      obtain ⟨hzA, hzB⟩ := hz3.out
      go_wp2_with (fail)
      have hS2 := hS.set (by omega) (by omega) (by omega) (by omega) 12 c
      rw [firstK_ctr key c 8 (by omega)] at hS2
      clear hS hfc hff
      obtain ⟨wo, rfl⟩ : ∃ wo : World, wo = wr := ⟨_, rfl⟩
      generalize wo.setCell ⟨g7, 12, none⟩ (.int .u32 c) = wn at *
      replace hS2 : RB w wn g3 g5 g6 g7 key nonce (firstN key c nonce 0) := hS2
      go_loopg [9] 4 (fun kq v9 wr => ∃ i : Nat, i ≤ 3 ∧ v9 = .int .i64 i ∧ Hd (kq + i = 4) ∧ RB w wr g3 g5 g6 g7 key nonce (firstN key c nonce i))
      case atStart => exact ⟨0, by omega, rfl, hid (by omega), hS2⟩
      case round =>
        clear hS2
        obtain ⟨i, hi, rfl, hq, hS⟩ := hrel
        by_cases hlt : i < 3
        · have hfc := hS.f.cellI (13 + i) (by rw [firstN_length]; omega)
          have hff := hS.f.frozen (13 + i)
          have hsl := sliceNonce1 wr g5 i hlt
          go_wp2_with (first
            | (go_at_call 102; refine (word1B_calls g5 (4 * i) (12 - 4 * i) _ nonce _ hS.n (by have := HN.out; omega) rn).mono ?_; rintro e w' ⟨rfl, m, rfl⟩; replace hfc : (wr.drewN m).cell? ⟨g7, 13 + i, none⟩ = _ := hfc; replace hff : (wr.drewN m).frozen? ⟨g7, 13 + i, none⟩ = _ := hff)
            | fail)
          go_roundg (gk - 1)
          case measure => have := hq.out; omega
          case rel => exact ⟨i + 1, by omega, by go_num, hid (by have := hq.out; omega), by rw [firstN_succ]; exact hS.setN (by omega) (by omega) (by omega) (by omega) (13 + i) _ m⟩
        · obtain rfl : i = 3 := by omega
          clear hq hi hlt
          have hlF : Hd ((ints .u32 (firstN key c nonce 3)).length = 16) := hid (by simpa using firstN_length key c nonce 3)
          have hw3 := HW.out
          generalize firstN key c nonce 3 = F at *
          go_wp2_with (first
            | (refine load_blk rfl 153 _ rfl g7 rfl 153 _ hS.f 16 29 arr65 hlF.out info65 ?_)
            | (refine alloc_blk rfl 153 rfl _ rfl (ints .u32 (List.replicate 16 0)) zeroA16 ?_; intro g10 w10 hg10 hb10 hB10 hs10)
            | (refine store_blk rfl 153 _ _ rfl g10 (ints .u32 F) rfl rfl 153 _ hb10 16 info65 hlF.out (by simp [ints]) (ints_one _ _) ?_)
            | fail)
          have hb7 := hS.f.lt
          have hz : Hd (w.heap.size ≤ g6 ∧ g6 < g7 ∧ g7 < g10) := hid (by omega)
          have hR : RR w (w10.setRow g10 (ints .u32 F).toArray) g6 g7 g10 F F :=
            ⟨(hS.r.belowAll hB10).setRowOther (by omega) _, (hS.f.belowAll hB10).setRowOther (by omega) _, hb10.setRow _, below_setRow (below_then hS.bel hS.bel.size hB10) (by omega) _⟩
          clear hS hb10 hB10 hg10 hs10 hb7 hzA hzB hz3
          have HL3 : Hd (F.length = 16) := hid (by simpa using hlF.out)
          clear hlF
          generalize w10.setRow g10 (ints .u32 F).toArray = w11 at *
          go_loopg [11] 11 (fun kq v11 wr => ∃ i : Nat, i ≤ 10 ∧ v11 = .int .i64 i ∧ Hd (kq + i = 11) ∧ RR w wr g6 g7 g10 F (rounds F i))
          case atStart => exact ⟨0, by omega, rfl, hid (by omega), hR⟩
          case round =>
            clear hR
            obtain ⟨i, hi, rfl, hq, hR⟩ := hrel
            obtain ⟨gk1, hgk⟩ : ∃ g : Nat, Hd (g = gk) := ⟨gk, hid rfl⟩
            by_cases hlt : i < 10
            · have hq1 : Hd (gk1 + i = 11) := hid (by rw [hgk.out]; exact hq.out)
              clear hq
              have hd1 : decide ((i : Int) < 10) = true := by simp; omega
              go_wp2_with (fail)
              obtain ⟨wo1, rfl⟩ : ∃ wo : World, wo = wr := ⟨_, rfl⟩
              go_loopg [12] 5 (fun kq v12 wr => ∃ j : Nat, j ≤ 4 ∧ v12 = .int .i64 j ∧ Hd (kq = 5 - j) ∧ RR w wr g6 g7 g10 F (cols (rounds F i) j))
              case atStart => exact ⟨0, by omega, rfl, hid rfl, by rw [cols_zero]; exact hR⟩
              case round =>
                clear hR
                obtain ⟨j, hj, rfl, hq2, hR⟩ := hrel
                by_cases hjlt : j < 4
                · have hlS : Hd ((cols (rounds F i) j).length = 16) := hid (by rw [cols_length, rounds_length]; exact HL3.out)
                  have hwS : Hd (words (cols (rounds F i) j)) := hid (words_cols (words_rounds hw3 i) j)
                  go_wp2_with (first
                    | (refine load_blk rfl 153 _ rfl g10 rfl 153 _ hR.s 16 29 arr65 (by simpa using hlS.out) info65 ?_)
                    | (go_at_call 103; refine (quarter1_calls j (4 + j) (8 + j) (12 + j) _ _ _ _ (cols (rounds F i) j) _ hlS.out (by omega) (by omega) (by omega) (by omega) hwS.out rfl (by omega) (by omega) (by omega)).mono ?_; rintro e wx ⟨rfl, hbx⟩)
                    | (refine store_blk rfl 153 _ _ rfl g10 (ints .u32 (quarter (cols (rounds F i) j) j (4 + j) (8 + j) (12 + j))) rfl rfl 153 _ (hR.s.belowAll hbx) 16 info65 (by simpa [quarter_length] using hlS.out) (by simpa using hlS.out) (ints_one _ _) ?_)
                    | fail)
                  go_roundg (gk - 1)
                  case measure => have := hq2.out; omega
                  case rel => exact ⟨j + 1, by omega, by go_num, hid (by have := hq2.out; omega), by rw [cols_succ]; exact hR.next hbx hz.out _⟩
                · have hj4 : (j : Int) = 4 := by omega
                  rw [hj4]
                  obtain rfl : j = 4 := by omega
                  clear hq2 hj hjlt hj4
                  go_wp2_with fail
                  obtain ⟨wo2, rfl⟩ : ∃ wo : World, wo = wr := ⟨_, rfl⟩
                  go_loopg [13] 5 (fun kq v13 wr => ∃ j : Nat, j ≤ 4 ∧ v13 = .int .i64 j ∧ Hd (kq = 5 - j) ∧ RR w wr g6 g7 g10 F (diags (cols (rounds F i) 4) j))
                  case atStart => exact ⟨0, by omega, rfl, hid rfl, by rw [diags_zero]; exact hR⟩
                  case round =>
                    clear hR
                    obtain ⟨j, hj, rfl, hq2, hR⟩ := hrel
                    by_cases hjlt : j < 4
                    · have hlS : Hd ((diags (cols (rounds F i) 4) j).length = 16) := hid (by rw [diags_length, cols_length, rounds_length]; exact HL3.out)
                      have hwS : Hd (words (diags (cols (rounds F i) 4) j)) := hid (words_diags (words_cols (words_rounds hw3 i) 4) j)
                      go_wp2_with (first
                        | (refine load_blk rfl 153 _ rfl g10 rfl 153 _ hR.s 16 29 arr65 (by simpa using hlS.out) info65 ?_)
                        | (go_at_call 103; refine (quarter1_calls j (4 + (j + 1) % 4) (8 + (j + 2) % 4) (12 + (j + 3) % 4) _ _ _ _ (diags (cols (rounds F i) 4) j) _ hlS.out (by omega) (by omega) (by omega) (by omega) hwS.out rfl (by omega) (by omega) (by omega)).mono ?_; rintro e wx ⟨rfl, hbx⟩)
                        | (refine store_blk rfl 153 _ _ rfl g10 (ints .u32 (quarter (diags (cols (rounds F i) 4) j) j (4 + (j + 1) % 4) (8 + (j + 2) % 4) (12 + (j + 3) % 4))) rfl rfl 153 _ (hR.s.belowAll hbx) 16 info65 (by simpa [quarter_length] using hlS.out) (by simpa using hlS.out) (ints_one _ _) ?_)
                        | fail)
                      go_roundg (gk - 1)
                      case measure => have := hq2.out; omega
                      case rel => exact ⟨j + 1, by omega, by go_num, hid (by have := hq2.out; omega), by rw [diags_succ]; exact hR.next hbx hz.out _⟩
                    · have hj4 : (j : Int) = 4 := by omega
                      rw [hj4]
                      obtain rfl : j = 4 := by omega
                      clear hq2 hj hjlt hj4
                      go_wp2_with fail
                      go_roundg (gk1 - 1)
                      case measure => have := hq1.out; have := hgk.out; omega
                      case rel => exact ⟨i + 1, by omega, by go_num, hid (by have := hq1.out; have := hgk.out; omega), by rw [rounds_succ]; exact hR⟩
            · obtain rfl : i = 10 := by omega
              clear hq hi hlt
              go_wp2_with (first
                | (refine alloc_blk rfl 142 rfl _ rfl (ints .u8 (List.replicate 64 0)) (by kernel_rfl) ?_; intro g14 w14 hg14 hb14 hB14 hs14)
                | fail)
              have hz : Hd (w.heap.size ≤ g6 ∧ g6 < g7 ∧ g7 < g10 ∧ g10 < g14) := hid (by have := hR.s.lt; have := hz.out; omega)
              have hO : RO w w14 g6 g7 g10 g14 F (rounds F 10) (outTo (rounds F 10) F 0) := ⟨⟨hR.r.belowAll hB14, hR.f.belowAll hB14, hR.s.belowAll hB14, below_then hR.bel hR.bel.size hB14⟩, hb14⟩
              clear hR hb14 hB14 hg14 hs14
              have hlS : (rounds F 10).length = 16 := by rw [rounds_length]; exact HL3.out
              have HLS := hid hlS
              clear hlS hw3 HW
              generalize rounds F 10 = S at hO HBL HLS
              go_loopg [15] 65 (fun kq v15 wr => ∃ i : Nat, i ≤ 64 ∧ v15 = .int .i64 i ∧ Hd (kq = 65 - i) ∧ RO w wr g6 g7 g10 g14 F S (outTo S F i))
              case atStart => exact ⟨0, by omega, rfl, hid rfl, hO⟩
              case round =>
                clear hO
                obtain ⟨i, hi, rfl, hq, hO⟩ := hrel
                by_cases hlt : i < 64
                · obtain ⟨q, r, hqr, hr, hq16⟩ : ∃ q r : Nat, Hd (i = 4 * q + r) ∧ r < 4 ∧ q < 16 := ⟨i / 4, i % 4, hid (by omega), by omega, by omega⟩
                  have cs := hO.s.cellI q (by have := HLS.out; omega)
                  have cf := hO.f.cellI q (by have := HL3.out; omega)
                  have co := hO.o.cellI i (by rw [outTo_length]; omega)
                  have fo := hO.o.frozen i
                  go_wp2_with fail
                  have a1 : IntKind.i64.wrap ((i : Int) / 4) = (q : Int) := by
                    have := hqr.out
                    rw [IntWalk.i64_in _ (by omega)]
                    omega
                  have a2 : (i : Int).tmod 4 = (r : Int) := by
                    have := hqr.out
                    rw [Int.tmod_eq_emod_of_nonneg (by omega)]
                    omega
                  have a3 : IntKind.i64.wrap (8 * (r : Int)) = 8 * (r : Int) := IntWalk.i64_in _ (by omega)
                  have a4 : 0 ≤ 8 * (r : Int) := by omega
                  have a5 : 8 * (r : Int) ≤ 32 := by omega
                  have a6 : (q : Int) < 16 := by omega
                  have a7 : (i : Int) < 64 := by omega
                  refine wp_region_still_tail 17 (by kernel_rfl) (by kernel_rfl) ?_
                  simp only [List.take_succ_cons, List.take_zero, List.drop_succ_cons, List.drop_zero]
                  change wpStill _ _ (World.drew _) (fun a' => wpList _ _ _ _ a' (World.drew _)) _ _
                  repeat still_step
                  refine wpStill_nil ?_
                  change wpList _ _ _ _ _ _
                  clear a1 a2 a3 a4 a5 a6
                  go_wp2_with fail
                  go_roundg (gk - 1)
                  case measure => have := hq.out; omega
                  case rel =>
                    refine ⟨i + 1, by omega, by go_num, hid (by have := hq.out; omega), ?_⟩
                    have hb := outByte_eq S F i q r hqr.out hr
                    have hn := hO.next hz.out i (outByte S F i)
                    rw [← outTo_succ, hb] at hn
                    rw [show min (8 * r) 32 = 8 * r by omega]
                    exact hn
                · obtain rfl : i = 64 := by omega
                  clear hq hi hlt
                  have hl64 : (ints .u8 (outTo S F 64)).length = 64 := by simpa using outTo_length S F 64
                  go_wp2_with (first
                    | (refine load_blk rfl 142 _ rfl g14 rfl 142 _ hO.o 64 5 arr44 hl64 info44 ?_)
                    | (refine store_blk rfl 142 _ _ rfl g6 _ rfl rfl 142 _ hO.r 64 info44 hl64 (by simp) (ints_one _ _) ?_))
                  refine bodyPost_ret (results_blk rfl _ _ g6 142 _ 64 5 rfl (hO.r.setRow _) arr44 hl64 info44) rfl ?_
                  exact ⟨by rw [HBL.out], below_setRow hO.bel (by have := hz.out; omega) _⟩
end Go.Proofs.YtlikinglgegclaaDoor
/- The reference's numbers of seventeen bytes: sums. -/
namespace Go.Proofs.YtlikinglgegclaaDoor
open Go.RowKit Go.Cour
/-- A word, as it is kept. -/
def m32 (x : Int) : Int := x % 4294967296
theorem and255w (x : Int) (h0 : 0 ≤ x) (h1 : x < 4294967296) : bits .and .u32 x 255 = x % 256 :=
  bits_mask .u32 32 (by decide) (fun n h0 h1 => by rw [IntKind.wrap_u32]; omega) 8 (by decide) x h0 (by simpa using h1)
theorem and3w (x : Int) (h0 : 0 ≤ x) (h1 : x < 4294967296) : bits .and .u32 x 3 = x % 4 :=
  bits_mask .u32 32 (by decide) (fun n h0 h1 => by rw [IntKind.wrap_u32]; omega) 2 (by decide) x h0 (by simpa using h1)
theorem m32_in (x : Int) : 0 ≤ m32 x ∧ m32 x < 4294967296 := ⟨Int.emod_nonneg _ (by decide), Int.emod_lt_of_pos _ (by decide)⟩
def pstep (c : List Int) (s : List Int × Int) (j : Nat) : List Int × Int := (s.1.set j (m32 (m32 (s.2 + rd s.1 j) + rd c j) % 256), m32 (m32 (s.2 + rd s.1 j) + rd c j) / 256)
def plusS (h c : List Int) (n : Nat) : List Int × Int := (List.range n).foldl (pstep c) (h, 0)
def plus1 (h c : List Int) : List Int := (plusS h c 17).1
theorem plusS_succ (h c : List Int) (n : Nat) : plusS h c (n + 1) = pstep c (plusS h c n) n := foldl_succ _ _ _
theorem plusS_length (h c : List Int) : ∀ n, (plusS h c n).1.length = h.length
  | 0 => rfl
  | n + 1 => by rw [plusS_succ]; simp only [pstep, List.length_set]; exact plusS_length h c n
theorem info88 : (Tryd.prog.info? 156).map (·.size) = some 17 := by kernel_rfl
theorem arr88 : Tryd.prog.underlying 156 = some (.array 17 29) := by kernel_rfl
theorem zeroA17w : ((Tryd.prog.info? 156).bind (·.zero)).map (·.cells) = some (ints .u32 (List.replicate 17 0)).toArray := by kernel_rfl
/-- What the blocks of a call hold. -/
structure PB (w wr : World) (g2 g3 g4 : Nat) (h c : List Int) : Prop where
  h : Blk wr g2 156 (ints .u32 h)
  c : Blk wr g3 156 (ints .u32 c)
  o : Blk wr g4 156 (ints .u32 (List.replicate 17 0))
  bel : Below w.heap.size w wr
theorem PB.set {w wr : World} {g2 g3 g4 : Nat} {h c : List Int} (H : PB w wr g2 g3 g4 h c) (hz : w.heap.size ≤ g2 ∧ g2 < g3 ∧ g3 < g4) (i : Nat) (x : Int) : PB w (wr.setCell ⟨g2, i, none⟩ (.int .u32 x)) g2 g3 g4 (h.set i x) c :=
  ⟨H.h.setI i x, H.c.setOther (by simp; omega) _, H.o.setOther (by simp; omega) _, H.bel.setCell (by simp; omega) _⟩
theorem PB.drewN {w wr : World} {g2 g3 g4 : Nat} {h c : List Int} (H : PB w wr g2 g3 g4 h c) (n : Nat) : PB w (wr.drewN n) g2 g3 g4 h c := ⟨H.h.drewN n, H.c.drewN n, H.o.drewN n, below_drewN H.bel n⟩
theorem PB.next {w wr : World} {g2 g3 g4 : Nat} {h c : List Int} (H : PB w wr g2 g3 g4 h c) (hz : w.heap.size ≤ g2 ∧ g2 < g3 ∧ g3 < g4) (n i : Nat) (x : Int) : PB w ((wr.drewN n).setCell ⟨g2, i, none⟩ (.int .u32 x)) g2 g3 g4 (h.set i x) c := (H.drewN n).set hz i x
set_option maxHeartbeats 2000000 in
set_option maxRecDepth 100000 in
theorem plus1_calls (h c : List Int) (w : World) (hh : h.length = 17) (hc : c.length = 17) :
    Calls Tryd.prog 105 #[.agg (ints .u32 h).toArray, .agg (ints .u32 c).toArray] w fun e w' => e = .returned (.agg (ints .u32 (plus1 h c)).toArray) ∧ Below w.heap.size w w' := by
  have HH := hid hh
  have HC := hid hc
  clear hh hc
  go_enter Tryd.func105, Tryd.ntmps105
  go_wp2_with (first
    | (have hx := HH; refine box_blk rfl 156 (.tmp 0) rfl _ rfl (ints .u32 h) rfl ?_; clear hx; intro g2 w1 hg2 hb2 hB1 hs1)
    | (refine box_blk rfl 156 (.tmp 1) rfl _ rfl (ints .u32 c) rfl ?_; intro g3 w2 hg3 hb3 hB2 hs2)
    | (refine alloc_blk rfl 156 rfl _ rfl (ints .u32 (List.replicate 17 0)) zeroA17w ?_; intro g4 w3 hg4 hb4 hB3 hs3)
    | fail)
  have hz : Hd (w.heap.size ≤ g2 ∧ g2 < g3 ∧ g3 < g4) := hid (by omega)
  have hX : PB w w3 g2 g3 g4 h c := ⟨(hb2.belowAll hB2).belowAll hB3, hb3.belowAll hB3, hb4, below_then (below_then hB1 hB1.size hB2) (by omega) hB3⟩
  clear hg2 hb2 hB1 hs1 hg3 hb3 hB2 hs2 hg4 hb4 hB3 hs3
  go_loopg [5, 6] 18 (fun kq v5 v6 wr => ∃ i : Nat, i ≤ 17 ∧ v6 = .int .i64 i ∧ v5 = .int .u32 (plusS h c i).2 ∧ Hd (kq + i = 18) ∧ PB w wr g2 g3 g4 (plusS h c i).1 c)
  case atStart => exact ⟨0, by omega, rfl, rfl, hid (by omega), hX⟩
  case round =>
    clear hX
    obtain ⟨i, hi, rfl, rfl, hgq, hX⟩ := hrel
    have hlen : Hd ((plusS h c i).1.length = 17) := hid (by rw [plusS_length]; exact HH.out)
    by_cases hlt : i < 17
    · have hE : Hd (plusS h c (i + 1) = pstep c (plusS h c i) i) := hid (plusS_succ h c i)
      obtain ⟨S, hS⟩ : ∃ S, Hd (plusS h c i = S) := ⟨_, hid rfl⟩
      rw [hS.out] at hX hlen hE ⊢
      have ch := hX.h.cellI i (by have := hlen.out; omega)
      have cc := hX.c.cellI i (by have := HC.out; omega)
      have fh := hX.h.frozen i
      have a1 : (i : Int) < 17 := by omega
      go_wp2_with fail
      go_quiet (fail)
      obtain ⟨Y, hY⟩ : ∃ Y, Hd (Y = ((S.2 + rd S.1 i) % 4294967296 + rd c i) % 4294967296) := ⟨_, hid rfl⟩
      rw [← hY.out]
      have hYb : 0 ≤ Y ∧ Y < 4294967296 := by rw [hY.out]; exact m32_in _
      have hE2 : Hd (pstep c S i = (S.1.set i (Y % 256), Y / 256)) := hid (by rw [hY.out]; rfl)
      go_wp2_with fail
      go_roundg (gk - 1)
      case measure => have := hgq.out; omega
      case rel =>
        refine ⟨i + 1, by omega, by go_num, ?_, hid (by have := hgq.out; omega), ?_⟩
        · rw [hE.out, hE2.out]
        · rw [hE.out, hE2.out]
          rw [and255w Y hYb.1 hYb.2]
          exact hX.next hz.out nq i (Y % 256)
    · obtain rfl : i = 17 := by omega
      clear hgq hi hlt
      obtain ⟨S, hS⟩ : ∃ S, Hd (plusS h c 17 = S) := ⟨_, hid rfl⟩
      have hP : Hd (plus1 h c = S.1) := hid (by rw [← hS.out]; rfl)
      rw [hS.out] at hX hlen
      have hl17 : (ints .u32 S.1).length = 17 := by simpa using hlen.out
      go_wp2_with (first
        | (refine load_blk rfl 156 _ rfl g2 rfl 156 _ hX.h 17 29 arr88 hl17 info88 ?_)
        | (refine store_blk rfl 156 _ _ rfl g4 (ints .u32 S.1) rfl rfl 156 _ hX.o 17 info88 hl17 (by simp) (ints_one _ _) ?_)
        | fail)
      refine bodyPost_ret (results_blk rfl _ _ g4 156 _ 17 29 rfl (hX.o.setRow _) arr88 hl17 info88) rfl ?_
      exact ⟨by rw [hP.out], below_setRow hX.bel (by have := hz.out; omega) _⟩
end Go.Proofs.YtlikinglgegclaaDoor
/- The reference's numbers of seventeen bytes: products. -/
namespace Go.Proofs.YtlikinglgegclaaDoor
open Go.RowKit Go.Cour
def termT (h r : List Int) (i j : Nat) : Int := if j ≤ i then m32 (rd h j * rd r (i - j)) else m32 (m32 (rd h j * 320) * rd r (i + 17 - j))
def accT (h r : List Int) (i : Nat) : Nat → Int
  | 0 => 0
  | n + 1 => m32 (accT h r i n + termT h r i n)
def xTo (h r : List Int) (n : Nat) : List Int := (List.range n).foldl (fun s i => s.set i (accT h r i 17)) (List.replicate 17 0)
theorem xTo_succ (h r : List Int) (n : Nat) : xTo h r (n + 1) = (xTo h r n).set n (accT h r n 17) := foldl_succ _ _ _
theorem xTo_length (h r : List Int) : ∀ n, (xTo h r n).length = 17
  | 0 => by simp [xTo]
  | n + 1 => by rw [xTo_succ, List.length_set]; exact xTo_length h r n
theorem rd_xTo (h r : List Int) (i : Nat) : ∀ n, rd (xTo h r n) i = if i < n ∧ i < 17 then accT h r i 17 else 0
  | 0 => by
    rw [if_neg (by omega)]
    unfold xTo rd
    rw [List.range_zero, List.foldl_nil, List.getD_eq_getElem?_getD, List.getElem?_replicate]
    split <;> rfl
  | n + 1 => by
    rw [xTo_succ, rd_set', xTo_length, rd_xTo h r i n]
    by_cases h1 : n = i
    · subst h1
      by_cases h2 : n < 17
      · rw [if_pos ⟨rfl, h2⟩, if_pos ⟨by omega, h2⟩]
      · rw [if_neg (by omega), if_neg (by omega), if_neg (by omega)]
    · rw [if_neg (by omega)]
      by_cases h2 : i < n ∧ i < 17
      · rw [if_pos h2, if_pos ⟨by omega, h2.2⟩]
      · rw [if_neg h2, if_neg (by omega)]
theorem set_rd (xs : List Int) (i : Nat) (h : i < xs.length) : xs.set i (rd xs i) = xs := by
  apply List.ext_getElem (by simp)
  intro j h1 h2
  rw [List.getElem_set]
  split
  · rename_i he
    subst he
    simp [rd, h]
  · rfl
theorem m32_add (y z : Int) : m32 (y + m32 z) = (y + z) % 4294967296 := by unfold m32; omega
def cstep (s : List Int × Int) (j : Nat) : List Int × Int := (s.1.set j (m32 (s.2 + rd s.1 j) % 256), m32 (s.2 + rd s.1 j) / 256)
def carT (s : List Int × Int) (n : Nat) : List Int × Int := (List.range n).foldl cstep s
theorem carT_succ (s : List Int × Int) (n : Nat) : carT s (n + 1) = cstep (carT s n) n := foldl_succ _ _ _
theorem carT_length (s : List Int × Int) : ∀ n, (carT s n).1.length = s.1.length
  | 0 => rfl
  | n + 1 => by rw [carT_succ]; simp only [cstep, List.length_set]; exact carT_length s n
def midT (s : List Int × Int) : List Int × Int := (s.1.set 16 (m32 (s.2 + rd s.1 16) % 4), m32 (5 * (m32 (s.2 + rd s.1 16) / 4)))
def endT (s : List Int × Int) : List Int := s.1.set 16 (m32 (rd s.1 16 + s.2))
def timesT (h r : List Int) : List Int := endT (carT (midT (carT (xTo h r 17, 0) 16)) 16)
/-- What the blocks of a call hold. -/
structure TB (w wr : World) (g2 g3 g4 g5 : Nat) (h r x : List Int) : Prop where
  h : Blk wr g2 156 (ints .u32 h)
  r : Blk wr g3 156 (ints .u32 r)
  o : Blk wr g4 156 (ints .u32 (List.replicate 17 0))
  x : Blk wr g5 156 (ints .u32 x)
  bel : Below w.heap.size w wr
theorem TB.set {w wr : World} {g2 g3 g4 g5 : Nat} {h r x : List Int} (H : TB w wr g2 g3 g4 g5 h r x) (hz : w.heap.size ≤ g2 ∧ g2 < g3 ∧ g3 < g4 ∧ g4 < g5) (i : Nat) (v : Int) : TB w (wr.setCell ⟨g5, i, none⟩ (.int .u32 v)) g2 g3 g4 g5 h r (x.set i v) :=
  ⟨H.h.setOther (by simp; omega) _, H.r.setOther (by simp; omega) _, H.o.setOther (by simp; omega) _, H.x.setI i v, H.bel.setCell (by simp; omega) _⟩
theorem TB.drew {w wr : World} {g2 g3 g4 g5 : Nat} {h r x : List Int} (H : TB w wr g2 g3 g4 g5 h r x) : TB w wr.drew g2 g3 g4 g5 h r x := ⟨H.h.drew, H.r.drew, H.o.drew, H.x.drew, below_drewN H.bel 1⟩
set_option maxHeartbeats 8000000 in
set_option maxRecDepth 100000 in
theorem times1_calls (h r : List Int) (w : World) (hh : h.length = 17) (hr : r.length = 17) :
    Calls Tryd.prog 104 #[.agg (ints .u32 h).toArray, .agg (ints .u32 r).toArray] w fun e w' => e = .returned (.agg (ints .u32 (timesT h r)).toArray) ∧ Below w.heap.size w w' := by
  have HH := hid hh
  have HR := hid hr
  have HE : Hd (endT (carT (midT (carT (xTo h r 17, 0) 16)) 16) = timesT h r) := hid rfl
  clear hh hr
  go_enter Tryd.func104, Tryd.ntmps104
  go_wp2_with (first
    | (have hx := HH; refine box_blk rfl 156 (.tmp 0) rfl _ rfl (ints .u32 h) rfl ?_; clear hx; intro g2 w1 hg2 hb2 hB1 hs1)
    | (refine box_blk rfl 156 (.tmp 1) rfl _ rfl (ints .u32 r) rfl ?_; intro g3 w2 hg3 hb3 hB2 hs2)
    | (have hx := hb4; refine alloc_blk rfl 156 rfl _ rfl (ints .u32 (List.replicate 17 0)) zeroA17w ?_; clear hx; intro g5 w4 hg5 hb5 hB4 hs4)
    | (refine alloc_blk rfl 156 rfl _ rfl (ints .u32 (List.replicate 17 0)) zeroA17w ?_; intro g4 w3 hg4 hb4 hB3 hs3)
    | fail)
  have hz : Hd (w.heap.size ≤ g2 ∧ g2 < g3 ∧ g3 < g4 ∧ g4 < g5) := hid (by omega)
  have hX : TB w w4 g2 g3 g4 g5 h r (xTo h r 0) := ⟨((hb2.belowAll hB2).belowAll hB3).belowAll hB4, (hb3.belowAll hB3).belowAll hB4, hb4.belowAll hB4, hb5, below_then (below_then (below_then hB1 hB1.size hB2) (by omega) hB3) (by omega) hB4⟩
  clear hg2 hb2 hB1 hs1 hg3 hb3 hB2 hs2 hg4 hb4 hB3 hs3 hg5 hb5 hB4 hs4
  go_loopg [6] 18 (fun kq v6 wr => ∃ i : Nat, i ≤ 17 ∧ v6 = .int .i64 i ∧ Hd (kq + i = 18) ∧ TB w wr g2 g3 g4 g5 h r (xTo h r i))
  case atStart => exact ⟨0, by omega, rfl, hid (by omega), hX⟩
  case round =>
    clear hX
    obtain ⟨i, hi, rfl, hq, hX⟩ := hrel
    obtain ⟨gk1, hgk⟩ : ∃ g : Nat, Hd (g = gk) := ⟨gk, hid rfl⟩
    by_cases hlt : i < 17
    · have hq1 : Hd (gk1 + i = 18) := hid (by rw [hgk.out]; exact hq.out)
      clear hq
      have a1 : (i : Int) < 17 := by omega
      have hd1 : decide ((i : Int) < 17) = true := by simp; omega
      have hs0 : (xTo h r i).set i (accT h r i 0) = xTo h r i := by
        have h0 : rd (xTo h r i) i = 0 := by rw [rd_xTo, if_neg (by omega)]
        have := set_rd (xTo h r i) i (by rw [xTo_length]; omega)
        rw [h0] at this
        exact this
      rw [← hs0] at hX
      clear hs0
      have hE : Hd ((xTo h r i).set i (accT h r i 17) = xTo h r (i + 1)) := hid (xTo_succ h r i).symm
      have hlen : Hd ((xTo h r i).length = 17) := hid (xTo_length h r i)
      generalize xTo h r i = X at hX hE hlen
      go_wp2_with (fail)
      obtain ⟨wo1, rfl⟩ : ∃ wo : World, wo = wr := ⟨_, rfl⟩
      go_loopg [7] 18 (fun kq v7 wr => ∃ j : Nat, j ≤ 17 ∧ v7 = .int .i64 j ∧ Hd (kq + j = 18) ∧ TB w wr g2 g3 g4 g5 h r (X.set i (accT h r i j)))
      case atStart => exact ⟨0, by omega, rfl, hid (by omega), hX⟩
      case round =>
        clear hX
        obtain ⟨j, hj, rfl, hq, hX⟩ := hrel
        by_cases hjlt : j < 17
        · have a2 : (j : Int) < 17 := by omega
          have cx := hX.x.cellI i (by simpa [hlen.out] using hlt)
          have fx := hX.x.frozen i
          have ch := hX.h.cellI j (by have := HH.out; omega)
          have hxe : rd (X.set i (accT h r i j)) i = accT h r i j := by rw [rd_set', if_pos ⟨rfl, by rw [hlen.out]; exact hlt⟩]
          rw [hxe] at cx
          clear hxe
          have hnx : Hd (accT h r i (j + 1) = m32 (accT h r i j + termT h r i j)) := hid rfl
          generalize accT h r i j = Y at *
          obtain ⟨Hj, hHj⟩ : ∃ x, Hd (rd h j = x) := ⟨_, hid rfl⟩
          rw [hHj.out] at ch
          by_cases hle : j ≤ i
          · have a3 : (j : Int) ≤ i := by omega
            have cr := hX.r.cellI (i - j) (by have := HR.out; omega)
            obtain ⟨R, hR⟩ : ∃ x, Hd (rd r (i - j) = x) := ⟨_, hid rfl⟩
            rw [hR.out] at cr
            obtain ⟨d, hdd⟩ : ∃ d, Hd (d = i - j) := ⟨_, hid rfl⟩
            rw [← hdd.out] at cr
            have a4 : (i : Int) - j = d := by have := hdd.out; omega
            have a5 : (d : Int) < 17 := by omega
            have a6 : IntKind.i64.wrap (d : Int) = (d : Int) := IntWalk.i64_in _ (by omega)
            have hte : Hd (termT h r i j = m32 (Hj * R)) := hid (by unfold termT; rw [if_pos hle, hHj.out, hR.out])
            go_wp2_with fail
            refine wp_region_still_tail 15 (by kernel_rfl) (by kernel_rfl) ?_
            simp only [List.take_succ_cons, List.take_zero, List.drop_succ_cons, List.drop_zero]
            change wpStill _ _ (World.drew _) (fun a' => wpList _ _ _ _ a' (World.drew _)) _ _
            repeat still_step
            refine wpStill_nil ?_
            change wpList _ _ _ _ _ _
            go_wp2_with fail
            go_roundg (gk - 1)
            case measure => have := hq.out; omega
            case rel =>
              refine ⟨j + 1, by omega, by go_num, hid (by have := hq.out; omega), ?_⟩
              rw [hnx.out, hte.out]
              rw [m32_add]
              have := (hX.set hz.out i ((Y + Hj * R) % 4294967296)).drew
              rw [List.set_set] at this
              exact this
          · have a3 : ¬ ((j : Int) ≤ i) := by omega
            have cr := hX.r.cellI (i + 17 - j) (by have := HR.out; omega)
            obtain ⟨R, hR⟩ : ∃ x, Hd (rd r (i + 17 - j) = x) := ⟨_, hid rfl⟩
            rw [hR.out] at cr
            obtain ⟨d, hdd⟩ : ∃ d, Hd (d = i + 17 - j) := ⟨_, hid rfl⟩
            rw [← hdd.out] at cr
            have a4 : (i : Int) + 17 - j = d := by have := hdd.out; omega
            have a5 : (d : Int) < 17 := by have := hdd.out; omega
            have a6 : IntKind.i64.wrap (d : Int) = (d : Int) := IntWalk.i64_in _ (by omega)
            have a7 : IntKind.i64.wrap ((i : Int) + 17) = (i : Int) + 17 := IntWalk.i64_in _ (by omega)
            have hte : Hd (termT h r i j = m32 (m32 (Hj * 320) * R)) := hid (by unfold termT; rw [if_neg hle, hHj.out, hR.out])
            go_wp2_with fail
            refine wp_region_still_tail 17 (by kernel_rfl) (by kernel_rfl) ?_
            simp only [List.take_succ_cons, List.take_zero, List.drop_succ_cons, List.drop_zero]
            change wpStill _ _ (World.drew _) (fun a' => wpList _ _ _ _ a' (World.drew _)) _ _
            repeat still_step
            refine wpStill_nil ?_
            change wpList _ _ _ _ _ _
            go_wp2_with fail
            go_roundg (gk - 1)
            case measure => have := hq.out; omega
            case rel =>
              refine ⟨j + 1, by omega, by go_num, hid (by have := hq.out; omega), ?_⟩
              rw [hnx.out, hte.out]
              rw [m32_add]
              have := (hX.set hz.out i ((Y + Hj * 320 % 4294967296 * R) % 4294967296)).drew
              rw [List.set_set] at this
              exact this
        · obtain rfl : j = 17 := by omega
          clear hq hj hjlt
          rw [hE.out] at hX
          go_wp2_with fail
          go_roundg (gk1 - 1)
          case measure => have := hq1.out; have := hgk.out; omega
          case rel => exact ⟨i + 1, by omega, by go_num, hid (by have := hq1.out; have := hgk.out; omega), hX⟩
    · obtain rfl : i = 17 := by omega
      clear hq hi hlt
      go_wp2_with fail
      have hlX : Hd ((xTo h r 17).length = 17) := hid (xTo_length h r 17)
      generalize xTo h r 17 = X at hX HE hlX
      obtain ⟨wo1, rfl⟩ : ∃ wo : World, wo = wr := ⟨_, rfl⟩
      go_loopg [8, 9] 17 (fun kq v8 v9 wr => ∃ j : Nat, j ≤ 16 ∧ v9 = .int .i64 j ∧ v8 = .int .u32 (carT (X, 0) j).2 ∧ Hd (kq + j = 17) ∧ TB w wr g2 g3 g4 g5 h r (carT (X, 0) j).1)
      case atStart => exact ⟨0, by omega, rfl, rfl, hid (by omega), hX⟩
      case round =>
        clear hX
        obtain ⟨j, hj, rfl, rfl, hq, hX⟩ := hrel
        have hlC : Hd ((carT (X, 0) j).1.length = 17) := hid (by rw [carT_length]; exact hlX.out)
        by_cases hjlt : j < 16
        · have hE : Hd (carT (X, 0) (j + 1) = cstep (carT (X, 0) j) j) := hid (carT_succ _ _)
          generalize carT (X, 0) j = S at hX hlC hE ⊢
          have cx := hX.x.cellI j (by have := hlC.out; omega)
          have fx := hX.x.frozen j
          have a1 : (j : Int) < 17 := by omega
          obtain ⟨Y, hY⟩ : ∃ Y, Hd (Y = (S.2 + rd S.1 j) % 4294967296) := ⟨_, hid rfl⟩
          have hYb : 0 ≤ Y ∧ Y < 4294967296 := by rw [hY.out]; exact m32_in _
          have hE2 : Hd (cstep S j = (S.1.set j (Y % 256), Y / 256)) := hid (by rw [hY.out]; rfl)
          go_wp2_with fail
          rw [← hY.out]
          go_roundg (gk - 1)
          case measure => have := hq.out; omega
          case rel =>
            refine ⟨j + 1, by omega, by go_num, ?_, hid (by have := hq.out; omega), ?_⟩
            · rw [hE.out, hE2.out]
            · rw [hE.out, hE2.out]
              rw [and255w Y hYb.1 hYb.2]
              exact hX.set hz.out j (Y % 256)
        · obtain rfl : j = 16 := by omega
          clear hq hj hjlt
          generalize hSe : carT (X, 0) 16 = S at hX hlC HE ⊢
          have cx := hX.x.cellI 16 (by have := hlC.out; omega)
          have fx := hX.x.frozen 16
          obtain ⟨Y, hY⟩ : ∃ Y, Hd (Y = (S.2 + rd S.1 16) % 4294967296) := ⟨_, hid rfl⟩
          have hYb : 0 ≤ Y ∧ Y < 4294967296 := by rw [hY.out]; exact m32_in _
          have hE2 : Hd (midT S = (S.1.set 16 (Y % 4), m32 (5 * (Y / 4)))) := hid (by rw [hY.out]; rfl)
          go_wp2_with fail
          rw [← hY.out, and3w Y hYb.1 hYb.2]
          replace hX := hX.set hz.out 16 (Y % 4)
          generalize hV : (5 * (Y / 4)) % 4294967296 = V
          replace hE2 : Hd (midT S = (S.1.set 16 (Y % 4), V)) := hid (by rw [hE2.out, ← hV]; rfl)
          rw [hE2.out] at HE
          replace hlC : Hd ((S.1.set 16 (Y % 4)).length = 17) := hid (by rw [List.length_set]; exact hlC.out)
          generalize S.1.set 16 (Y % 4) = Z at hX HE hlC
          obtain ⟨wo2, rfl⟩ : ∃ wo : World, wo = wr := ⟨_, rfl⟩
          generalize wo2.setCell ⟨g5, 16, none⟩ (.int .u32 (Y % 4)) = wn at hX ⊢
          go_loopg [8, 10] 17 (fun kq v8 v10 wr => ∃ j : Nat, j ≤ 16 ∧ v10 = .int .i64 j ∧ v8 = .int .u32 (carT (Z, V) j).2 ∧ Hd (kq + j = 17) ∧ TB w wr g2 g3 g4 g5 h r (carT (Z, V) j).1)
          case atStart => exact ⟨0, by omega, rfl, rfl, hid (by omega), hX⟩
          case round =>
            clear hX cx fx hY hYb hE2 hV hSe
            obtain ⟨j, hj, rfl, rfl, hq, hX⟩ := hrel
            have hlD : Hd ((carT (Z, V) j).1.length = 17) := hid (by rw [carT_length]; exact hlC.out)
            by_cases hjlt : j < 16
            · have hE : Hd (carT (Z, V) (j + 1) = cstep (carT (Z, V) j) j) := hid (carT_succ _ _)
              generalize carT (Z, V) j = T at hX hlD hE ⊢
              have cx := hX.x.cellI j (by have := hlD.out; omega)
              have fx := hX.x.frozen j
              have a1 : (j : Int) < 17 := by omega
              obtain ⟨Y1, hY⟩ : ∃ Y, Hd (Y = (T.2 + rd T.1 j) % 4294967296) := ⟨_, hid rfl⟩
              have hYb : 0 ≤ Y1 ∧ Y1 < 4294967296 := by rw [hY.out]; exact m32_in _
              have hE2 : Hd (cstep T j = (T.1.set j (Y1 % 256), Y1 / 256)) := hid (by rw [hY.out]; rfl)
              go_wp2_with fail
              rw [← hY.out]
              go_roundg (gk - 1)
              case measure => have := hq.out; omega
              case rel =>
                refine ⟨j + 1, by omega, by go_num, ?_, hid (by have := hq.out; omega), ?_⟩
                · rw [hE.out, hE2.out]
                · rw [hE.out, hE2.out]
                  rw [and255w Y1 hYb.1 hYb.2]
                  exact hX.set hz.out j (Y1 % 256)
            · obtain rfl : j = 16 := by omega
              clear hq hj hjlt
              generalize hTe : carT (Z, V) 16 = T at hX hlD HE ⊢
              have cx := hX.x.cellI 16 (by have := hlD.out; omega)
              have fx := hX.x.frozen 16
              have hE3 : Hd (timesT h r = T.1.set 16 ((rd T.1 16 + T.2) % 4294967296)) := hid HE.out.symm
              have hX2 := hX.set hz.out 16 ((rd T.1 16 + T.2) % 4294967296)
              have hl17 : Hd ((ints .u32 (T.1.set 16 ((rd T.1 16 + T.2) % 4294967296))).length = 17) := hid (by simpa using hlD.out)
              go_wp2_with (first
                | (refine load_blk rfl 156 _ rfl g5 rfl 156 _ hX2.x 17 29 arr88 hl17.out info88 ?_)
                | (refine store_blk rfl 156 _ _ rfl g4 (ints .u32 (T.1.set 16 ((rd T.1 16 + T.2) % 4294967296))) rfl rfl 156 _ hX2.o 17 info88 hl17.out (by simp) (ints_one _ _) ?_)
                | fail)
              refine bodyPost_ret (results_blk rfl _ _ g4 156 _ 17 29 rfl (hX2.o.setRow _) arr88 hl17.out info88) rfl ?_
              exact ⟨by rw [hE3.out], below_setRow hX2.bel (by have := hz.out; omega) _⟩
end Go.Proofs.YtlikinglgegclaaDoor
