/- A block's words; a round; a block taken in: as functions of lists. -/
import Derived.Test.YtinpilfnnmkpoaaDoorShaA
namespace Go.Proofs.YtinpilfnnmkpoaaDoor
open Go.RowKit Go.Cour
/-- The numbers of the rounds. -/
def shaK : List Int := [1116352408, 1899447441, 3049323471, 3921009573, 961987163, 1508970993, 2453635748, 2870763221, 3624381080, 310598401, 607225278, 1426881987, 1925078388, 2162078206, 2614888103, 3248222580, 3835390401, 4022224774, 264347078, 604807628, 770255983, 1249150122, 1555081692, 1996064986, 2554220882, 2821834349, 2952996808, 3210313671, 3336571891, 3584528711, 113926993, 338241895, 666307205, 773529912, 1294757372, 1396182291, 1695183700, 1986661051, 2177026350, 2456956037, 2730485921, 2820302411, 3259730800, 3345764771, 3516065817, 3600352804, 4094571909, 275423344, 430227734, 506948616, 659060556, 883997877, 958139571, 1322822218, 1537002063, 1747873779, 1955562222, 2024104815, 2227730452, 2361852424, 2428436474, 2756734187, 3204031479, 3329325298]
/-- A block's word. -/
def word32 (b : List Int) (i : Nat) : Int := bits .or .u32 (bits .or .u32 (bits .or .u32 (rd b (4 * i) * 16777216) (rd b (4 * i + 1) * 65536)) (rd b (4 * i + 2) * 256)) (rd b (4 * i + 3))
def sig (a b : Nat) (d x : Int) : Int := bits .xor .u32 (bits .xor .u32 (rotr a x) (rotr b x)) (x / d)
def Sig (a b c : Nat) (x : Int) : Int := bits .xor .u32 (bits .xor .u32 (rotr a x) (rotr b x)) (rotr c x)
def schedW (w : List Int) (i : Nat) : Int := (rd w (i - 16) + sig 7 18 8 (rd w (i - 15)) + rd w (i - 7) + sig 17 19 1024 (rd w (i - 2))) % 4294967296
/-- The words so far: of the block. -/
def schedA (b : List Int) (n : Nat) : List Int := (List.range n).foldl (fun w i => w.set i (word32 b i)) (List.replicate 64 0)
/-- And those that come of them. -/
def schedB (b : List Int) (n : Nat) : List Int := (List.range n).foldl (fun w i => w.set (16 + i) (schedW w (16 + i))) (schedA b 16)
def sched (b : List Int) : List Int := schedB b 48
theorem schedA_succ (b : List Int) (n : Nat) : schedA b (n + 1) = (schedA b n).set n (word32 b n) := by simp [schedA, List.range_succ]
theorem schedB_succ (b : List Int) (n : Nat) : schedB b (n + 1) = (schedB b n).set (16 + n) (schedW (schedB b n) (16 + n)) := by simp [schedB, List.range_succ]
@[simp] theorem schedA_length (b : List Int) (n : Nat) : (schedA b n).length = 64 := by
  induction n with
  | zero => simp [schedA]
  | succ n ih => rw [schedA_succ]; simpa using ih
@[simp] theorem schedB_length (b : List Int) (n : Nat) : (schedB b n).length = 64 := by
  induction n with
  | zero => simp [schedB]
  | succ n ih => rw [schedB_succ]; simpa using ih
def W32 (x : Int) : Prop := 0 ≤ x ∧ x < 4294967296
theorem bits_W32 (op : BinOp) (x y : Int) : W32 (bits op .u32 x y) := ⟨bits_lo_u32 _ _ _, by have := bits_hi_u32 op x y; omega⟩
theorem mod_W32 (x : Int) : W32 (x % 4294967296) := ⟨Int.emod_nonneg _ (by decide), Int.emod_lt_of_pos _ (by decide)⟩
theorem rd_all {P : Int → Prop} {xs : List Int} (h : ∀ x ∈ xs, P x) (h0 : P 0) (i : Nat) : P (rd xs i) := by
  unfold rd
  rw [List.getD_eq_getElem?_getD]
  cases hi : xs[i]? with
  | none => exact h0
  | some x => exact h x (List.mem_of_getElem? hi)
theorem zero_W32 : W32 0 := ⟨by decide, by decide⟩
theorem word32_W32 (b : List Int) (i : Nat) : W32 (word32 b i) := bits_W32 _ _ _
theorem schedW_W32 (b : List Int) (i : Nat) : W32 (schedW b i) := mod_W32 _
theorem set_all {P : Int → Prop} {xs : List Int} {i : Nat} {y : Int} (h : ∀ x ∈ xs, P x) (hy : P y) : ∀ x ∈ xs.set i y, P x := fun x hx => by
  rcases List.mem_or_eq_of_mem_set hx with h1 | h1
  · exact h x h1
  · exact h1 ▸ hy
theorem schedA_W32 (b : List Int) (n : Nat) : ∀ x ∈ schedA b n, W32 x := by
  induction n with
  | zero => intro x hx; simp [schedA] at hx; rw [hx]; exact zero_W32
  | succ n ih => rw [schedA_succ]; exact set_all ih (word32_W32 _ _)
theorem schedB_W32 (b : List Int) (n : Nat) : ∀ x ∈ schedB b n, W32 x := by
  induction n with
  | zero => simpa [schedB] using schedA_W32 b 16
  | succ n ih => rw [schedB_succ]; exact set_all ih (schedW_W32 _ _)
theorem shaK_all : ∀ x ∈ shaK, W32 x := by unfold W32; decide
theorem shaK_W32 (i : Nat) : W32 (rd shaK i) := rd_all shaK_all zero_W32 i
/-- A round. -/
def oneS (s : List Int) (k w : Int) : Int := (rd s 7 + Sig 6 11 25 (rd s 4) + bits .xor .u32 (bits .and .u32 (rd s 4) (rd s 5)) (bits .and .u32 (bits .xor .u32 IntKind.u32.max (rd s 4)) (rd s 6)) + k + w)
def twoS (s : List Int) : Int := (Sig 2 13 22 (rd s 0) + bits .xor .u32 (bits .xor .u32 (bits .and .u32 (rd s 0) (rd s 1)) (bits .and .u32 (rd s 0) (rd s 2))) (bits .and .u32 (rd s 1) (rd s 2)))
def stepS (ws : List Int) (s : List Int) (i : Nat) : List Int :=
  [(oneS s (rd shaK i) (rd ws i) + twoS s) % 4294967296, rd s 0, rd s 1, rd s 2, (rd s 3 + oneS s (rd shaK i) (rd ws i)) % 4294967296, rd s 4, rd s 5, rd s 6]
def roundsS (b h : List Int) (n : Nat) : List Int := (List.range n).foldl (stepS (sched b)) h
theorem roundsS_succ (b h : List Int) (n : Nat) : roundsS b h (n + 1) = stepS (sched b) (roundsS b h n) n := by simp [roundsS, List.range_succ]
theorem roundsS_length (b h : List Int) (hl : h.length = 8) (n : Nat) : (roundsS b h n).length = 8 := by
  cases n with
  | zero => simpa [roundsS] using hl
  | succ n => rw [roundsS_succ]; rfl
theorem stepS_W32 {ws s : List Int} {i : Nat} (h : ∀ x ∈ s, W32 x) : ∀ x ∈ stepS ws s i, W32 x := fun x hx => by
  have r := fun j => rd_all h zero_W32 j
  simp only [stepS, List.mem_cons, List.not_mem_nil, or_false] at hx
  rcases hx with rfl | rfl | rfl | rfl | rfl | rfl | rfl | rfl <;> first | exact r _ | exact mod_W32 _
theorem roundsS_W32 (b h : List Int) (hh : ∀ x ∈ h, W32 x) (n : Nat) : ∀ x ∈ roundsS b h n, W32 x := by
  induction n with
  | zero => simpa [roundsS] using hh
  | succ n ih => rw [roundsS_succ]; exact stepS_W32 ih
/-- Some of the words laid on top of the others. -/
def topS (h s : List Int) (n : Nat) : List Int := (List.range n).foldl (fun x i => x.set i ((rd h i + rd s i) % 4294967296)) h
theorem topS_succ (h s : List Int) (n : Nat) : topS h s (n + 1) = (topS h s n).set n ((rd h n + rd s n) % 4294967296) := by simp [topS, List.range_succ]
@[simp] theorem topS_length (h s : List Int) (n : Nat) : (topS h s n).length = h.length := by
  induction n with
  | zero => rfl
  | succ n ih => rw [topS_succ]; simpa using ih
theorem topS_rd (h s : List Int) (n j : Nat) (hj : n ≤ j) : rd (topS h s n) j = rd h j := by
  induction n with
  | zero => rfl
  | succ n ih =>
    rw [topS_succ, rd_set', if_neg (by omega)]
    exact ih (by omega)
theorem topS_W32 (h s : List Int) (hh : ∀ x ∈ h, W32 x) (n : Nat) : ∀ x ∈ topS h s n, W32 x := by
  induction n with
  | zero => exact hh
  | succ n ih => rw [topS_succ]; exact set_all ih (mod_W32 _)
/-- A block taken in. -/
def shaBlock (h b : List Int) : List Int := topS h (roundsS b h 64) 8
theorem shaBlock_length (h b : List Int) : (shaBlock h b).length = h.length := topS_length _ _ _
theorem shaBlock_W32 (h b : List Int) (hh : ∀ x ∈ h, W32 x) : ∀ x ∈ shaBlock h b, W32 x := topS_W32 _ _ hh _
end Go.Proofs.YtinpilfnnmkpoaaDoor
